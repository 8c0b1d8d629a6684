/- 'ScriptEncodesSaid' is proved: the law ScriptEncodes returns true at every input, and hands back what it read. Conditions: none beyond the statement's own. -/
import Derived.Test.YtclleaffonkegaaGreatB14
namespace Go.Proofs.YtclleaffonkegaaGreat.ScriptEncodesP
open Go Go.Vc Go.RowKit Go.ChangeShapes Go.WideShapes Go.ChangeAt Go.Joins
theorem walk (x0 : DT.den (.slc tAEntry)) (x1 : DT.den (.slc (.int .u8))) (o0 : DT.okD (.slc tAEntry) x0) (o1 : DT.okD (.slc (.int .u8)) x1) : law38_ScriptEncodesNW stdW x0 x1 = some true := encodes_of lives38_true x0 x1 (fun x hx => o0.1 x hx) (by have := o0.2; rw [maxLen_eq] at this; exact this) (bt_ok o1)
set_option maxRecDepth 100000 in
theorem lifted (os : Os) (started : os.Started) (H : Type) (enc : TypeId × Value → H) :
    ReturnsInHanded {} Tryz.checked os 4 .any (Rows.scriptEncodesSpec.pre6 enc Tryz.prog Tryz.f4 Rows.scriptEncodesRow.domain false) (Rows.scriptEncodesSpec.post enc Tryz.prog Tryz.f4 false true false false) := by
  refine returnsInHanded_of_change (C := Tryz.checked) own started (by kernel_rfl) Tryz.func4
    (ChangeSpec.witness6 (enc := enc) (C := Tryz.checked) false ⟨#[], #[.slice none 0 0, .slice none 0 0], []⟩ 8 (by kernel_rfl) (by kernel_rfl) (by kernel_rfl) (by kernel_rfl)) ?_
  intro W base args ds gs before hval0 hW hcnd _
  have hval : ∀ (j : Nat) t v, Tryz.f4.params[j]? = some t → args[j]? = some v → Value.okWide Tryz.prog W .any base t v := hval0
  have hW' := hW
  obtain ⟨p, q, hA0, hV, rfl, hfz, hnd⟩ := hW
  have hA : DataW.TrodAll enc Tryz.prog W 0 (fun _ => true) true Tryz.f4.params.toList args.toList ds p := hA0
  rw [Tryz.params4] at hA hval
  obtain ⟨v0, vs0, d0, ds0, p0, q0, hargs, rfl, rfl, h0, r0⟩ := trodAll_cons hA
  obtain ⟨v1, vs1, d1, ds1, p1, q1, rfl, rfl, rfl, h1, r1⟩ := trodAll_cons r0
  obtain ⟨rfl, rfl, rfl⟩ := trodAll_nil r1
  obtain rfl : args = #[v0, v1] := by cases args; simp_all
  obtain ⟨rfl, rfl⟩ := trodVars_none hV
  have lt0 := trod_places h0
  have k0 := h0
  have lt1 := trod_places h1
  have k1 := h1
  obtain ⟨x0, o0, g0⟩ := openD (d := (.slc tAEntry)) (by kernel_rfl) (hval 0 58 v0 rfl rfl) k0
  obtain ⟨x1, o1, g1⟩ := openD (d := (.slc (.int .u8))) (by kernel_rfl) (hval 1 22 v1 rfl rfl) k1
  clear hA0 hval0
  refine (esays (x := (x0, x1, ())) (vs := [v0, v1]) (w := W) law38_ScriptEncodesN_k.ok (walk x0 x1 o0 o1) (argCons g0 (argCons g1 argNil)) ⟨_, Tryz.func4, by decide +kernel, rfl⟩).mono fun e W' ⟨he, bel⟩ => ?_
  subst he
  exact ⟨_, rfl, _, _, _, [], _, [], hW', trodAll_mk1 (shut_bool Tryz.underlying4 _),
    (trodAll_cons_mk (Below.trod laidOut (by kernel_rfl) (of_decide_eq_true (by kernel_rfl)) h0 bel lt0) (trodAll_cons_mk (Below.trod laidOut (by kernel_rfl) (of_decide_eq_true (by kernel_rfl)) h1 bel lt1) trodAll_mk0)), rfl, bel.frame _, fun h => by cases h⟩

def clo : List Nat := [4, 13, 6, 14, 50, 51, 73, 74, 151, 153, 152, 125, 194, 76, 127, 17, 55, 56, 128, 129, 131, 130, 57, 58, 132, 59, 60, 15, 52, 126, 53, 54, 16, 18, 61, 133, 62, 63, 19, 20, 64, 135, 134, 195, 49, 7, 28, 77, 136, 78, 154, 155, 232, 233, 330, 344, 422, 499, 333, 418, 331, 82, 252, 342, 343, 79, 156, 157, 234, 235, 332, 417, 80, 158, 236, 334, 29, 30, 81, 31, 83, 84, 160, 91, 159, 162, 163, 161, 165, 164, 85, 167, 168, 166, 170, 90, 169, 86, 172, 171, 174, 175, 173, 87, 177, 178, 176, 89, 88, 93, 95, 94, 92, 96, 179, 237, 180, 238, 239, 294, 335, 419, 336, 240, 295, 241, 142, 201, 263, 262, 337, 362, 181, 242, 243, 338, 182, 244, 339, 268, 353, 269, 273, 119, 245, 246, 183, 184, 247, 340, 185, 248, 249, 250, 251, 341, 420, 421, 356, 429, 498, 36, 101, 102, 103, 189, 190, 104, 105, 106, 32, 97, 186, 33, 22, 66, 137, 138, 139, 197, 198, 25, 24, 68, 140, 199, 75, 141, 200, 69, 143, 70, 144, 202, 264, 348, 349, 120, 203, 265, 350, 423, 500, 204, 266, 351, 425, 424, 205, 267, 352, 427, 426, 71, 145, 206, 111, 207, 270, 272, 271, 354, 355, 428, 501, 208, 274, 275, 112, 276, 357, 358, 430, 502, 209, 211, 277, 360, 359, 431, 432, 503, 552, 210, 278, 361, 433, 434, 363, 435, 436, 504, 553, 279, 212, 146, 213, 280, 319, 310, 281, 282, 364, 437, 438, 408, 447, 441, 448, 450, 510, 509, 452, 492, 451, 543, 372, 402, 409, 482, 374, 453, 506, 507, 442, 406, 401, 193, 400, 481, 540, 483, 367, 443, 486, 487, 488, 489, 541, 542, 566, 585, 291, 375, 454, 512, 455, 513, 477, 533, 534, 554, 571, 572, 591, 573, 560, 561, 574, 592, 593, 598, 575, 576, 577, 578, 514, 456, 283, 365, 440, 395, 474, 473, 524, 439, 505, 446, 214, 284, 366, 215, 285, 115, 216, 286, 368, 369, 114, 217, 287, 288, 370, 444, 508, 445, 371, 449, 511, 289, 373, 290, 292, 218, 293, 147, 219, 220, 221, 296, 376, 457, 515, 297, 299, 378, 377, 298, 222, 300, 301, 302, 304, 303, 380, 123, 379, 458, 459, 460, 516, 517, 555, 579, 381, 461, 223, 305, 382, 383, 462, 518, 306, 384, 308, 307, 385, 386, 463, 387, 464, 465, 519, 556, 580, 581, 520, 557, 582, 594, 583, 595, 388, 466, 467, 521, 522, 148, 224, 309, 311, 389, 113, 469, 468, 390, 391, 392, 470, 471, 523, 558, 225, 312, 393, 472, 226, 313, 394, 314, 315, 396, 475, 397, 476, 525, 526, 559, 527, 528, 562, 563, 584, 529, 530, 531, 532, 398, 227, 316, 399, 478, 535, 536, 564, 479, 537, 480, 538, 539, 565, 403, 228, 317, 318, 404, 405, 485, 484, 229, 320, 407, 490, 491, 230, 321, 322, 323, 410, 411, 494, 544, 545, 567, 586, 596, 587, 493, 412, 495, 546, 547, 551, 570, 548, 549, 568, 569, 588, 589, 597, 599, 600, 607, 601, 602, 608, 609, 610, 603, 604, 605, 606, 590, 550, 413, 496, 324, 414, 415, 497, 149, 231, 325, 326, 327, 328, 416, 329, 67, 196, 258, 5, 21, 65, 23, 27, 26, 72, 98, 150, 187, 188, 253, 254, 345, 255, 256, 257, 346, 100, 35, 99, 34, 259, 260, 261, 347, 8, 10, 47, 116, 117, 118, 121, 192, 122]
set_option maxRecDepth 1000000 in
theorem clo_ok : closT leadsT (1 + (leadsT.map fun l => l.length + 1).sum) [4] [] = clo := by kernel_rfl
set_option maxRecDepth 1000000 in
theorem unf : Tryz.prog.unfollowed 4 = true := by
  unfold Program.unfollowed
  rw [closure_eq leads_ok, clo_ok]
  kernel_rfl
theorem rec : Tryz.prog.recurses 4 = true := by unfold Program.recurses; rw [unf]; rfl
theorem and_t {a b : Bool} (ha : a = true) (hb : b = true) : (a && b) = true := by rw [ha, hb]; rfl
set_option maxRecDepth 1000000 in
theorem fact0 : (Rows.scriptEncodesRow.wf (OpenSpec.ofChange Rows.scriptEncodesSpec)) = true := by kernel_rfl
set_option maxRecDepth 1000000 in
theorem fact1 : (laidOutB Tryz.prog) = true := by kernel_rfl
set_option maxRecDepth 1000000 in
theorem fact2 : (mapsRowed Tryz.prog) = true := by kernel_rfl
set_option maxRecDepth 1000000 in
theorem fact3 : (Tryz.f4.params.all (Tryz.prog.readableRec ·)) = true := by kernel_rfl
set_option maxRecDepth 1000000 in
theorem fact4 : (namedTie Tryz.prog Rows.scriptEncodesRow.named Rows.scriptEncodesSpec.vars) = true := by kernel_rfl
set_option maxRecDepth 1000000 in
theorem fact5 : ((Rows.scriptEncodesRow.stops == [])) = true := by kernel_rfl
set_option maxRecDepth 1000000 in
theorem fact6 : ((Tryz.prog.stops == [])) = true := by kernel_rfl
set_option maxRecDepth 1000000 in
theorem fact7 : ((Rows.scriptEncodesRow.knobs == [])) = true := by kernel_rfl
set_option maxRecDepth 1000000 in
theorem fact8 : ((Tryz.prog.stopKnobs == [])) = true := by kernel_rfl
set_option maxRecDepth 1000000 in
theorem fact9 : ((Rows.scriptEncodesRow.inPlace == Tryz.prog.inPlace 4)) = true := by unfold Program.inPlace; rw [closure_eq leads_ok, clo_ok]; kernel_rfl
set_option maxRecDepth 1000000 in
theorem fact10 : ((Rows.scriptEncodesRow.unfollowed == Tryz.prog.unfollowed 4)) = true := by rw [unf]; kernel_rfl
set_option maxRecDepth 1000000 in
theorem fact11 : ((Rows.scriptEncodesRow.recurses == Tryz.prog.recurses 4)) = true := by rw [rec]; kernel_rfl
set_option maxRecDepth 1000000 in
theorem fact12 : ((Rows.scriptEncodesRow.named == Tryz.prog.varsNamed 4)) = true := by rw [varsNamed_eq leads_ok glob_ok ent_ok, clo_ok]; kernel_rfl
set_option maxRecDepth 1000000 in
theorem fact13 : ((Rows.scriptEncodesRow.maps == (Tryz.f4.params.toList ++ Rows.scriptEncodesSpec.plain.varTypes Tryz.prog).any (Tryz.prog.mapsRec ·))) = true := by kernel_rfl
set_option maxRecDepth 1000000 in
theorem fact14 : ((Rows.scriptEncodesRow.ifaces == (Tryz.f4.params.toList ++ Rows.scriptEncodesSpec.plain.varTypes Tryz.prog).any (Tryz.prog.ifacesRec ·))) = true := by kernel_rfl
set_option maxRecDepth 1000000 in
theorem fact15 : ((Rows.scriptEncodesRow.mapsOut == Tryz.prog.mapsAmong Tryz.f4.resultTypes.toList)) = true := by kernel_rfl
set_option maxRecDepth 1000000 in
theorem fact16 : ((Rows.scriptEncodesRow.loops == (Tryz.f4.params.toList ++ Rows.scriptEncodesSpec.plain.varTypes Tryz.prog).any (Tryz.prog.loopsFrom ·))) = true := by kernel_rfl
set_option maxRecDepth 1000000 in
theorem fact17 : ((Rows.scriptEncodesRow.wideKeys == (Tryz.f4.params.toList ++ Rows.scriptEncodesSpec.plain.varTypes Tryz.prog ++ Tryz.f4.resultTypes.toList).any (Tryz.prog.wideKeysFrom ·))) = true := by kernel_rfl
set_option maxRecDepth 1000000 in
theorem fact18 : (Rows.scriptEncodesSpec.vars.all (Tryz.prog.varReadable ·)) = true := by kernel_rfl
set_option maxRecDepth 1000000 in
theorem fact19 : (Tryz.f4.resultTypes.all (fun t => Tryz.prog.readableRec t && decide (t < Tryz.prog.types.size))) = true := by kernel_rfl
set_option maxRecDepth 1000000 in
theorem fact20 : ((Rows.scriptEncodesRow.ifacesOut == Tryz.f4.resultTypes.toList.any (Tryz.prog.ifacesRec ·))) = true := by kernel_rfl
set_option maxRecDepth 1000000 in
theorem fact21 : ((Rows.scriptEncodesRow.loopsOut == Tryz.f4.resultTypes.toList.any (Tryz.prog.loopsFrom ·))) = true := by kernel_rfl
set_option maxRecDepth 1000000 in
theorem fact22 : ((Rows.scriptEncodesRow.plainKeys == Tryz.prog.plainKeys)) = true := by kernel_rfl
set_option maxRecDepth 1000000 in
theorem fact23 : (Rows.scriptEncodesRow.shortTexts.isNone) = true := by kernel_rfl
set_option maxRecDepth 1000000 in
theorem fact24 : (Tryz.prog.stopsHeard) = true := by kernel_rfl
set_option maxRecDepth 1000000 in
theorem fact25 : (Tryz.prog.mayEnter) = true := by kernel_rfl
set_option maxRecDepth 1000000 in
theorem fact26 : ((Rows.scriptEncodesRow.lifted == Tryz.prog.liftsFinal)) = true := by kernel_rfl
set_option maxRecDepth 1000000 in
theorem fact27 : ((Tryz.prog.make == some Rows.scriptEncodesRow.make)) = true := by kernel_rfl
set_option maxRecDepth 1000000 in
theorem fact28 : ((Rows.scriptEncodesRow.kinds == (if Rows.scriptEncodesRow.domain.isEmpty then [] else Tryz.f4.params.toList.map fun t => match Tryz.prog.underlying t with | some (.int k) => some k | _ => none))) = true := by kernel_rfl
set_option maxRecDepth 1000000 in
theorem fact29 : ((Rows.scriptEncodesRow.pinned == Rows.scriptEncodesRow.pinnedBy)) = true := by kernel_rfl
set_option maxRecDepth 1000000 in
theorem fact30 : ((Rows.scriptEncodesRow.veiled == (Tryz.f4.params.toList ++ Rows.scriptEncodesSpec.plain.varTypes Tryz.prog ++ Tryz.f4.resultTypes.toList).any (Tryz.prog.veiledRec ·))) = true := by kernel_rfl
set_option maxRecDepth 1000000 in
theorem fact31 : (Rows.scriptEncodesRow.veiledFits Tryz.prog Tryz.f4.params.toList (Tryz.f4.params.toList ++ Rows.scriptEncodesSpec.plain.varTypes Tryz.prog ++ Tryz.f4.resultTypes.toList)) = true := by kernel_rfl
set_option maxRecDepth 1000000 in
theorem closed : joinedFacts Tryz.pinned.checked.prog 4 Tryz.f4 Rows.scriptEncodesSpec Rows.scriptEncodesRow = true := by
  show joinedFacts Tryz.prog 4 Tryz.f4 Rows.scriptEncodesSpec Rows.scriptEncodesRow = true
  unfold joinedFacts
  exact (and_t (and_t (and_t (and_t (and_t (and_t (and_t (and_t (and_t (and_t (and_t (and_t (and_t (and_t (and_t (and_t (and_t (and_t (and_t (and_t (and_t (and_t (and_t (and_t (and_t (and_t (and_t (and_t (and_t (and_t (and_t fact0 fact1) fact2) fact3) fact4) fact5) fact6) fact7) fact8) fact9) fact10) fact11) fact12) fact13) fact14) fact15) fact16) fact17) fact18) fact19) fact20) fact21) fact22) fact23) fact24) fact25) fact26) fact27) fact28) fact29) fact30) fact31)
theorem over : Rows.scriptEncodesRow.holds Tryz.pinned (OpenSpec.ofChange Rows.scriptEncodesSpec) :=
  OpenClaim.holds_of_wide 4 Tryz.f4 rfl rfl rfl rfl rfl rfl rfl ⟨rfl, rfl, rfl, rfl, rfl⟩ rfl rfl rfl rfl rfl (by kernel_rfl) Tryz.func4 closed
    (of_decide_eq_true (by kernel_rfl)) (by unfold Func.isWrapper; first | (rw [if_pos (by decide +kernel)]; kernel_rfl) | (rw [if_neg (by decide +kernel)]; exact ⟨rfl, rfl⟩))
    (fun os started H enc _ => lifted os started H enc)

theorem proved : Rows.ScriptEncodesSaid := over
#print axioms proved
end Go.Proofs.YtclleaffonkegaaGreat.ScriptEncodesP