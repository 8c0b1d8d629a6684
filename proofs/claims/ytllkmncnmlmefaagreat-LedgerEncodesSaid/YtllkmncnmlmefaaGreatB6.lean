import Derived.Test.YtllkmncnmlmefaaGreatB5
namespace Go.Proofs.YtllkmncnmlmefaaGreat
open Go Go.Vc Go.RowKit
set_option synthInstance.maxSize 100000
set_option synthInstance.maxHeartbeats 0
/-! ### the ledger: the document's writing -/
theorem r_rInt {n : Int} (hn : Is64 n) : ref04_Int n = some (encU (fold n)) := by
  show ref04_IntW stdW n = _
  unfold ref04_IntW
  have go : ∀ u : Nat, u < 18446744073709551616 → stdW.loop (fun (z2 : Int × List (Int) × Unit) again3 => 
   stdW.cnd (decide (128 ≤ z2.1)) (stdW.nz 128 (stdW.room (z2.2.1.length + ((IntKind.u8.wrap (IntKind.u64.wrap ((Int.tmod z2.1 128) + 128))) :: []).length) 1 (stdW.nz 128 ((again3 ((IntKind.u64.wrap (Int.tdiv z2.1 128)), ((z2.2.1 ++ ((IntKind.u8.wrap (IntKind.u64.wrap ((Int.tmod z2.1 128) + 128))) :: [])), ())))))))
    (stdW.room (z2.2.1.length + ((IntKind.u8.wrap z2.1) :: []).length) 1 (some (z2.2.1 ++ ((IntKind.u8.wrap z2.1) :: []))))) ((u : Int), ([], ())) = some (encU u) := by
    intro u hu
    have hl := encU_len10 hu
    refine (loop_std (fun z => z.1.toNat) (fun z => ∃ (v : Nat) (l : List Int), z = ((v : Int), (l, ())) ∧ v < 18446744073709551616 ∧ l.length + (encU v).length ≤ 20) (fun z => some (z.2.1 ++ encU z.1.toNat)) ⟨u, [], rfl, hu, by simp only [List.length_nil]; omega⟩ (by show (u : Int).toNat < _; omega) ?_).trans (by simp)
    rintro _ ⟨v, l, rfl, hv, hl⟩ again ha
    show stdW.cnd (decide ((128 : Int) ≤ (v : Int))) _ _ = some (l ++ encU (v : Int).toNat)
    rw [Int.toNat_natCast]
    by_cases h : 128 ≤ v
    · rw [cnd_y (by simpa using by omega)]
      rw [encU_ge h] at hl ⊢
      simp only [List.length_cons] at hl
      show nzF 128 _ = _
      rw [nz_eq (by omega), room_w (by simp only [List.length_cons, List.length_nil]; omega) (by simp only [List.length_cons, List.length_nil]; omega)]
      show nzF 128 _ = _
      rw [nz_eq (by omega)]
      show again (IntKind.u64.wrap (Int.tdiv (v : Int) 128), ((l ++ (IntKind.u8.wrap (IntKind.u64.wrap ((Int.tmod (v : Int) 128) + 128))) :: []), ())) = _
      rw [tdivN, tmodN, u64c _ (by omega), u64c _ (by omega), u8c _ (by omega)]
      refine (ha _ ⟨v / 128, _, rfl, by omega, by simp only [List.length_append, List.length_cons, List.length_nil]; omega⟩ (by show ((v / 128 : Nat) : Int).toNat < ((v : Nat) : Int).toNat; omega)).trans ?_
      rw [Int.toNat_natCast, List.append_assoc]
      show some (l ++ ((((v % 128 : Nat) : Int) + 128) :: encU (v / 128))) = _
      rw [show ((v % 128 : Nat) : Int) + 128 = ((v % 128 + 128 : Nat) : Int) by omega]
    · rw [cnd_n (by simpa using by omega)]
      rw [encU_lt (by omega)] at hl ⊢
      rw [room_w (by simp only [List.length_cons, List.length_nil] at hl ⊢; omega) (by simp only [List.length_cons, List.length_nil] at hl ⊢; omega)]
      show some (l ++ (IntKind.u8.wrap (v : Int)) :: []) = _
      rw [u8c _ (by omega)]
  have hf := fold_lt n hn
  unfold Is64 at hn
  rw [join_w]
  by_cases h : 0 ≤ n
  · rw [cnd_y (by simpa using h), u64c n (by omega), u64c (2 * n) (by omega)]
    have e : 2 * n = ((fold n : Nat) : Int) := by unfold fold; rw [if_pos h]; omega
    rw [e]; exact go _ hf
  · rw [cnd_n (by simpa using by omega), i64c (n + 1) (by omega), i64c (0 - (n + 1)) (by omega), u64c (0 - (n + 1)) (by omega), u64c (2 * (0 - (n + 1))) (by omega), u64c (2 * (0 - (n + 1)) + 1) (by omega)]
    have e : 2 * (0 - (n + 1)) + 1 = ((fold n : Nat) : Int) := by unfold fold; rw [if_neg h]; omega
    rw [e]; exact go _ hf
theorem encs_take {l : List Int} (hl : ∀ n ∈ l, Is64 n) (i : Nat) : (encs (l.take i)).length ≤ 10 * i := by
  have h := encs_len (l := l.take i) fun n hn => hl n (List.mem_of_mem_take hn)
  rw [List.length_take] at h; omega
theorem r_ints {l : List Int} (hl : ∀ n ∈ l, Is64 n) (hn : l.length ≤ 1000000) : ref04_Ints l = some (encs l) := by
  show ref04_IntsW stdW l = _
  unfold ref04_IntsW
  refine loop_list (l := l) (by omega) (fun i s => s = (encs (l.take i), ())) (fun _ _ => some (encs l)) (by simp [encs]) ?_ ?_
  · rintro _ again rfl
    rw [cnd_end, List.take_length]
  · rintro i hi _ rfl again ha
    have hx := hl _ (List.getElem_mem hi)
    have hlen := encs_take hl i
    have h10 := encU_len10 (fold_lt _ hx)
    rw [cnd_lt hi, idx_w hi, call_eq (r_rInt hx), room_w (by show (encs (List.take i l)).length + _ ≤ _; omega) (by show ((encs (List.take i l)).length + _) * 1 ≤ _; omega)]
    show again (IntKind.i64.wrap ((i : Int) + 1), (encs (l.take i) ++ encU (fold l[i]), ())) = _
    rw [i64_s i (by omega)]
    refine ha _ ?_
    rw [show l.take (i + 1) = l.take i ++ [l[i]] by simp, encs_app, encs_one]
theorem r_sameL {α : Type} [DecidableEq α] {l m : List α} (f : Int × Unit → (Int × Unit → Option Bool) → Option Bool) (hl : l.length ≤ 100000000) (hm : l.length = m.length)
    (hf : ∀ (i : Nat) (h : i < l.length) (again : Int × Unit → Option Bool), f ((i : Int), ()) again = if l[i] = m[i]'(by omega) then again (((i + 1 : Nat) : Int), ()) else some false) (he : ∀ again : Int × Unit → Option Bool, f ((l.length : Int), ()) again = some true) : stdW.loop f (0, ()) = some (decide (l = m)) := by
  refine (loop_list (l := l) (by omega) (fun i _ => l.take i = m.take i) (fun _ _ => some (decide (l = m))) (s0 := ()) (by simp) ?_ ?_)
  · rintro ⟨⟩ again h
    rw [he]
    rw [List.take_length, hm, List.take_length] at h
    rw [decide_eq_true h]
  · rintro i hi ⟨⟩ h again ha
    rw [hf i hi]
    by_cases h1 : l[i] = m[i]'(by omega)
    · rw [if_pos h1, ha ()]
      rw [show l.take (i + 1) = l.take i ++ [l[i]] by simp, show m.take (i + 1) = m.take i ++ [m[i]'(by omega)] by simp, h, h1]
    · rw [if_neg h1, decide_eq_false (fun e => h1 (by subst e; rfl))]
theorem r_sameB {l m : List Int} (hl : l.length ≤ 100000000) : ref01_Same l m = some (decide (l = m)) := by
  show ref01_SameW stdW l m = _
  unfold ref01_SameW
  by_cases h : l.length = m.length
  · rw [cnd_n (by simp [h])]
    refine r_sameL _ hl h (fun i hi again => ?_) (fun again => ?_)
    · rw [cnd_lt hi, idx_w hi, idx_w (by omega)]
      by_cases h1 : l[i] = m[i]'(by omega)
      · rw [cnd_n (by simp [h1]), if_pos h1]
        show again (IntKind.i64.wrap ((i : Int) + 1), ()) = _
        rw [i64_s i (by omega)]
      · rw [cnd_y (by simp [h1]), if_neg h1]
    · rw [cnd_end]
  · rw [cnd_y (by simp; omega), decide_eq_false (fun e => h (by rw [e]))]

theorem rf_nums {b l : List Int} (h : okN b l) : ref33_nums b l = some (b ++ encs l, ()) := by
  show ref33_numsW stdW b l = _
  unfold ref33_numsW
  have hl := encs_len h.1
  have h1 := h.2.1
  rw [call_eq (r_ints h.1 h.2.2), room_w (by omega) (by omega)]
theorem rf_count {b : List Int} {n : Int} (h : okN b [n]) : ref33_count b n = some (b ++ encs [n], ()) := by
  show ref33_countW stdW b n = _
  unfold ref33_countW
  have hl := encs_len h.1
  have h1 := h.2.1
  have h2 := h.1 n (by simp)
  rw [encs_one] at hl ⊢
  rw [call_eq (r_rInt h2), room_w (by simp only [List.length_cons, List.length_nil] at hl h1; omega) (by simp only [List.length_cons, List.length_nil] at hl h1; omega)]
theorem rf_each {α β : Type} {l : List α} (f : α → List Int) (hl : l.length < 9223372036854775808) {F : Int × List Int × Unit → (Int × List Int × Unit → Option β) → Option β} {b : List Int} {r : Option β}
    (hb : okN b (l.flatMap f))
    (hend : ∀ again : Int × List Int × Unit → Option β, F ((l.length : Int), (b ++ encs (l.flatMap f), ())) again = r)
    (hstep : ∀ (i : Nat) (hi : i < l.length) (b' : List Int), okN b' (f l[i]) → ∀ again : Int × List Int × Unit → Option β, again (((i + 1 : Nat) : Int), (b' ++ encs (f l[i]), ())) = r → F ((i : Int), (b', ())) again = r) :
    stdW.loop F (0, (b, ())) = r := by
  refine loop_go (l := l) (s0 := b) hl (fun i (b' : List Int) => ((i : Int), (b', ()))) (fun i b' => b' = b ++ encs ((l.take i).flatMap f)) (fun _ _ => r) rfl (by simp [encs]) ?_ ?_
  · intro b' hb' again
    rw [List.take_length] at hb'
    subst hb'
    exact hend again
  · intro i hi b' hb' again ha
    have e : l.flatMap f = (l.take i).flatMap f ++ (f l[i] ++ (l.drop (i + 1)).flatMap f) := by
      conv => lhs; rw [← List.take_append_drop i l, List.drop_eq_getElem_cons hi]
      rw [List.flatMap_append, List.flatMap_cons]
    rw [e] at hb
    have hk := hb.right.left
    rw [← hb'] at hk
    refine hstep i hi b' hk again ?_
    refine ha _ ?_
    rw [hb', List.take_succ_eq_append_getElem hi, List.flatMap_append, encs_app]
    simp [encs]
theorem rf_positions {l : List APos'} {b : List Int} (h : okN b (nL nP l)) : ref33_positions b l = some (b ++ encs (nL nP l), ()) := by
  show ref33_positionsW stdW b l = _
  unfold ref33_positionsW
  have l1 := h.len fun x => by simp [nP, nU]
  obtain ⟨a1, a2⟩ := h.list
  rw [call_eq (rf_count a1)]
  refine rf_each (l := l) nP (by omega) a2 ?_ ?_
  · intro again
    rw [encs_l]
    show stdW.cnd (decide ((l.length : Int) < (l.length : Int))) _ (some _) = _
    rw [cnd_end]
  · intro i hi b' hk again ha
    show stdW.cnd (decide ((i : Int) < (l.length : Int))) (stdW.idx l (i : Int) _) _ = _
    rw [cnd_lt hi, idx_w hi]
    show stdW.idx l (i : Int) _ = _
    rw [idx_w hi]
    show stdW.idx l (i : Int) _ = _
    rw [idx_w hi]
    have k : okN b' ([l[i].1.1, l[i].1.2.1, (l[i].2.1.length : Int)] ++ l[i].2.1.flatMap nU) := hk
    have l2 : l[i].2.1.length ≤ 1000000 := by
      have h1 := flat_len1 (f := nU) (fun x => by simp [nU]) l[i].2.1
      have := k.right.2.2
      omega
    show stdW.call (ref33_nums b' [l[i].1.1, l[i].1.2.1, (l[i].2.1.length : Int)]) _ = _
    rw [call_eq (rf_nums k.left)]
    refine rf_each (l := l[i].2.1) nU (by omega) k.right ?_ ?_
    · intro again2
      show stdW.idx l (i : Int) _ = _
      rw [idx_w hi]
      show stdW.cnd (decide ((l[i].2.1.length : Int) < (l[i].2.1.length : Int))) _ (again (IntKind.i64.wrap ((i : Int) + 1), (_, ()))) = _
      rw [cnd_end, i64_s i (by omega), encs_j]; exact ha
    · intro j hj b2 hk2 again2 ha2
      show stdW.idx l (i : Int) _ = _
      rw [idx_w hi]
      show stdW.cnd (decide ((j : Int) < (l[i].2.1.length : Int))) (stdW.idx l (i : Int) _) _ = _
      rw [cnd_lt hj, idx_w hi]
      show stdW.idx l[i].2.1 (j : Int) _ = _
      rw [idx_w hj]
      show stdW.idx l (i : Int) _ = _
      rw [idx_w hi]
      show stdW.idx l[i].2.1 (j : Int) _ = _
      rw [idx_w hj]
      show stdW.call (ref33_nums b2 (nU l[i].2.1[j])) _ = _
      rw [call_eq (rf_nums hk2)]
      show again2 (IntKind.i64.wrap ((j : Int) + 1), (_, ())) = _
      rw [i64_s j (by omega)]; exact ha2
/-- a row that is written, of the document -/
theorem rf_row {α β : Type} {l : List α} (f : α → List Int) (hf : ∀ x, 0 < (f x).length) {b rest : List Int} (h : okN b (nL f l ++ rest)) {K : Int × List Int × Unit → (Int × List Int × Unit → Option β) → Option β} {E : List Int → Option β} {r : Option β}
    (hE : okN (b ++ encs (nL f l)) rest → E (b ++ encs (nL f l)) = r)
    (hend : ∀ b', ∀ again : Int × List Int × Unit → Option β, K ((l.length : Int), (b', ())) again = E b')
    (hstep : ∀ (i : Nat) (hi : i < l.length) (b' : List Int), okN b' (f l[i]) → ∀ again : Int × List Int × Unit → Option β, again (((i + 1 : Nat) : Int), (b' ++ encs (f l[i]), ())) = r → K ((i : Int), (b', ())) again = r) :
    stdW.call (ref33_count b (l.length : Int)) (fun v => stdW.loop K (0, v)) = r := by
  have l1 := h.left.len hf
  obtain ⟨a1, a2⟩ := h.left.list
  rw [call_eq (rf_count a1)]
  refine rf_each (l := l) f (by omega) a2 ?_ hstep
  intro again
  rw [encs_l, hend]
  exact hE h.right
theorem rf_encode {s : AState'} (h : okN [] (nS s)) : ref33_Encode s = some (encs (nS s)) := by
  show ref33_EncodeW stdW s = _
  unfold ref33_EncodeW
  have k0 : okN [] ([s.1] ++ (nL nM s.2.1 ++ (nL nI s.2.2.1 ++ (nL nA s.2.2.2.1 ++ (nL nAc s.2.2.2.2.1 ++ (nL nC s.2.2.2.2.2.1 ++ (nL nG s.2.2.2.2.2.2.1 ++ (nL nV s.2.2.2.2.2.2.2.1 ++ (nL nP s.2.2.2.2.2.2.2.2.1 ++ (nL nP s.2.2.2.2.2.2.2.2.2.1 ++ (nL nF s.2.2.2.2.2.2.2.2.2.2.1 ++ nL nH s.2.2.2.2.2.2.2.2.2.2.2.1))))))))))) := by
    have e := h
    unfold nS nT nAs nDs nMo at e
    simp only [List.append_assoc] at e ⊢
    exact e
  have eS : nS s = [s.1] ++ (nL nM s.2.1 ++ (nL nI s.2.2.1 ++ (nL nA s.2.2.2.1 ++ (nL nAc s.2.2.2.2.1 ++ (nL nC s.2.2.2.2.2.1 ++ (nL nG s.2.2.2.2.2.2.1 ++ (nL nV s.2.2.2.2.2.2.2.1 ++ (nL nP s.2.2.2.2.2.2.2.2.1 ++ (nL nP s.2.2.2.2.2.2.2.2.2.1 ++ (nL nF s.2.2.2.2.2.2.2.2.2.2.1 ++ nL nH s.2.2.2.2.2.2.2.2.2.2.2.1)))))))))) := by
    unfold nS nT nAs nDs nMo
    simp only [List.append_assoc]
  clear h
  have hd := k0.left.1 s.1 (by simp)
  have k1 := k0.right
  rw [encs_one, List.nil_append] at k1
  rw [call_eq (r_rInt hd), eS, encs_app, encs_one]
  generalize encU (fold s.1) = b at *
  clear k0 eS hd
  refine rf_row nM (fun x => by simp [nM]) k1 (fun k => ?_) (fun b' again => cnd_end _ _) (fun i hi b' hk again ha => ?_)
  rotate_left
  · show stdW.cnd (decide ((i : Int) < (s.2.1.length : Int))) (stdW.idx s.2.1 (i : Int) _) _ = _
    rw [cnd_lt hi, idx_w hi]
    show stdW.call (ref33_nums b' (nM s.2.1[i])) _ = _
    rw [call_eq (rf_nums hk)]
    show again (IntKind.i64.wrap ((i : Int) + 1), (_, ())) = _
    have hi' := k1.left.len fun x => by simp [nM]
    rw [i64_s i (by omega)]; exact ha
  clear k1
  rw [encs_app]
  rw [show ∀ a c d : List Int, a ++ (c ++ d) = a ++ c ++ d from fun a c d => (List.append_assoc a c d).symm]
  generalize b ++ encs (nL nM s.2.1) = b at *
  show stdW.call (ref33_count b (s.2.2.1.length : Int)) _ = _
  have hi' := k.left.len fun x => by simp [nI, nL]
  refine rf_row nI (fun x => by simp [nI, nL]) k (fun k => ?_) (fun b' again => cnd_end _ _) (fun i hi b' hk again ha => ?_)
  rotate_left
  · show stdW.cnd (decide ((i : Int) < (s.2.2.1.length : Int))) (stdW.idx s.2.2.1 (i : Int) _) _ = _
    rw [cnd_lt hi, idx_w hi]
    generalize s.2.2.1[i] = x at *
    have k' : okN b' ([x.1, x.2.1, x.2.2.1, x.2.2.2.1, (x.2.2.2.2.1.length : Int)] ++ x.2.2.2.2.1) := by
      have := hk
      unfold nI nL at this
      rw [flat1] at this
      exact this
    show stdW.call (ref33_nums b' [x.1, x.2.1, x.2.2.1, x.2.2.2.1, (x.2.2.2.2.1.length : Int)]) _ = _
    rw [call_eq (rf_nums k'.left)]
    show stdW.call (ref33_nums (b' ++ encs [x.1, x.2.1, x.2.2.1, x.2.2.2.1, (x.2.2.2.2.1.length : Int)]) x.2.2.2.2.1) _ = _
    rw [call_eq (rf_nums k'.right), encs_j]
    unfold nI nL at ha
    rw [flat1] at ha
    show again (IntKind.i64.wrap ((i : Int) + 1), (_, ())) = _
    rw [i64_s i (by omega)]; exact ha
  clear hi'
  rw [encs_app]
  rw [show ∀ a c d : List Int, a ++ (c ++ d) = a ++ c ++ d from fun a c d => (List.append_assoc a c d).symm]
  generalize b ++ encs (nL nI s.2.2.1) = b at *
  show stdW.call (ref33_count b (s.2.2.2.1.length : Int)) _ = _
  have hi' := k.left.len fun x => by simp [nA]
  refine rf_row nA (fun x => by simp [nA]) k (fun k => ?_) (fun b' again => cnd_end _ _) (fun i hi b' hk again ha => ?_)
  rotate_left
  · show stdW.cnd (decide ((i : Int) < (s.2.2.2.1.length : Int))) (stdW.idx s.2.2.2.1 (i : Int) _) _ = _
    rw [cnd_lt hi, idx_w hi]
    show stdW.idx s.2.2.2.1 (i : Int) _ = _
    rw [idx_w hi]
    show stdW.idx s.2.2.2.1 (i : Int) _ = _
    rw [idx_w hi]
    show stdW.call (ref33_nums b' (nA s.2.2.2.1[i])) _ = _
    rw [call_eq (rf_nums hk)]
    show again (IntKind.i64.wrap ((i : Int) + 1), (_, ())) = _
    rw [i64_s i (by omega)]; exact ha
  clear hi'
  rw [encs_app]
  rw [show ∀ a c d : List Int, a ++ (c ++ d) = a ++ c ++ d from fun a c d => (List.append_assoc a c d).symm]
  generalize b ++ encs (nL nA s.2.2.2.1) = b at *
  show stdW.call (ref33_count b (s.2.2.2.2.1.length : Int)) _ = _
  have hi' := k.left.len fun x => by simp [nAc, nL]
  refine rf_row nAc (fun x => by simp [nAc, nL]) k (fun k => ?_) (fun b' again => cnd_end _ _) (fun i hi b' hk again ha => ?_)
  rotate_left
  · show stdW.cnd (decide ((i : Int) < (s.2.2.2.2.1.length : Int))) (stdW.idx s.2.2.2.2.1 (i : Int) _) _ = _
    rw [cnd_lt hi, idx_w hi]
    generalize s.2.2.2.2.1[i] = x at *
    have k' : okN b' ([x.1, x.2.1, x.2.2.1, (x.2.2.2.1.length : Int)] ++ x.2.2.2.1.flatMap fun n => [n]) := hk
    have l2 : x.2.2.2.1.length ≤ 1000000 := by
      have h1 := k'.right.2.2
      rwa [flat1] at h1
    show stdW.call (ref33_nums b' [x.1, x.2.1, x.2.2.1, (x.2.2.2.1.length : Int)]) _ = _
    rw [call_eq (rf_nums k'.left)]
    refine rf_each (l := x.2.2.2.1) (fun n => [n]) (by omega) k'.right ?_ ?_
    · intro again2
      show stdW.cnd (decide ((x.2.2.2.1.length : Int) < (x.2.2.2.1.length : Int))) _ (again (IntKind.i64.wrap ((i : Int) + 1), (_, ()))) = _
      rw [cnd_end, i64_s i (by omega), encs_j]; exact ha
    · intro j hj b2 hk2 again2 ha2
      show stdW.cnd (decide ((j : Int) < (x.2.2.2.1.length : Int))) (stdW.idx x.2.2.2.1 (j : Int) _) _ = _
      rw [cnd_lt hj, idx_w hj]
      show stdW.call (ref33_count b2 x.2.2.2.1[j]) _ = _
      rw [call_eq (rf_count hk2)]
      show again2 (IntKind.i64.wrap ((j : Int) + 1), (_, ())) = _
      rw [i64_s j (by omega)]; exact ha2
  clear hi'
  rw [encs_app]
  rw [show ∀ a c d : List Int, a ++ (c ++ d) = a ++ c ++ d from fun a c d => (List.append_assoc a c d).symm]
  generalize b ++ encs (nL nAc s.2.2.2.2.1) = b at *
  show stdW.call (ref33_count b (s.2.2.2.2.2.1.length : Int)) _ = _
  have hi' := k.left.len fun x => by simp [nC, nU]
  refine rf_row nC (fun x => by simp [nC, nU]) k (fun k => ?_) (fun b' again => cnd_end _ _) (fun i hi b' hk again ha => ?_)
  rotate_left
  · show stdW.cnd (decide ((i : Int) < (s.2.2.2.2.2.1.length : Int))) (stdW.idx s.2.2.2.2.2.1 (i : Int) _) _ = _
    rw [cnd_lt hi, idx_w hi]
    generalize s.2.2.2.2.2.1[i] = x at *
    refine join_g fun kk hkk => ?_
    have K : ∀ n, n = nB x.2.2.1 → kk (n, (b', ())) = again (((i + 1 : Nat) : Int), (b' ++ encs (nC x), ())) := by
      rintro _ rfl
      subst hkk
      show stdW.call (ref33_nums b' (nC x)) (fun v34 => again (IntKind.i64.wrap ((i : Int) + 1), v34)) = _
      rw [call_eq (rf_nums hk), i64_s i (by omega)]
    clear hkk
    refine Eq.trans ?_ ha
    show stdW.cnd x.2.2.1 (kk (1, (b', ()))) (kk (0, (b', ()))) = _
    cases hx : x.2.2.1
    · exact K 0 (by rw [hx]; rfl)
    · exact K 1 (by rw [hx]; rfl)
  clear hi'
  rw [encs_app]
  rw [show ∀ a c d : List Int, a ++ (c ++ d) = a ++ c ++ d from fun a c d => (List.append_assoc a c d).symm]
  generalize b ++ encs (nL nC s.2.2.2.2.2.1) = b at *
  show stdW.call (ref33_count b (s.2.2.2.2.2.2.1.length : Int)) _ = _
  have hi' := k.left.len fun x => by simp [nG]
  refine rf_row nG (fun x => by simp [nG]) k (fun k => ?_) (fun b' again => cnd_end _ _) (fun i hi b' hk again ha => ?_)
  rotate_left
  · show stdW.cnd (decide ((i : Int) < (s.2.2.2.2.2.2.1.length : Int))) (stdW.idx s.2.2.2.2.2.2.1 (i : Int) _) _ = _
    rw [cnd_lt hi, idx_w hi]
    show stdW.call (ref33_nums b' (nG s.2.2.2.2.2.2.1[i])) _ = _
    rw [call_eq (rf_nums hk)]
    show again (IntKind.i64.wrap ((i : Int) + 1), (_, ())) = _
    rw [i64_s i (by omega)]; exact ha
  clear hi'
  rw [encs_app]
  rw [show ∀ a c d : List Int, a ++ (c ++ d) = a ++ c ++ d from fun a c d => (List.append_assoc a c d).symm]
  generalize b ++ encs (nL nG s.2.2.2.2.2.2.1) = b at *
  show stdW.call (ref33_count b (s.2.2.2.2.2.2.2.1.length : Int)) _ = _
  have hi' := k.left.len fun x => by simp [nV]
  refine rf_row nV (fun x => by simp [nV]) k (fun k => ?_) (fun b' again => cnd_end _ _) (fun i hi b' hk again ha => ?_)
  rotate_left
  · show stdW.cnd (decide ((i : Int) < (s.2.2.2.2.2.2.2.1.length : Int))) (stdW.idx s.2.2.2.2.2.2.2.1 (i : Int) _) _ = _
    rw [cnd_lt hi, idx_w hi]
    show stdW.call (ref33_nums b' (nV s.2.2.2.2.2.2.2.1[i])) _ = _
    rw [call_eq (rf_nums hk)]
    show again (IntKind.i64.wrap ((i : Int) + 1), (_, ())) = _
    rw [i64_s i (by omega)]; exact ha
  clear hi'
  rw [encs_app]
  rw [show ∀ a c d : List Int, a ++ (c ++ d) = a ++ c ++ d from fun a c d => (List.append_assoc a c d).symm]
  generalize b ++ encs (nL nV s.2.2.2.2.2.2.2.1) = b at *
  show stdW.call (ref33_positions b s.2.2.2.2.2.2.2.2.1) _ = _
  rw [call_eq (rf_positions k.left)]
  have k := k.right
  rw [encs_app]
  rw [show ∀ a c d : List Int, a ++ (c ++ d) = a ++ c ++ d from fun a c d => (List.append_assoc a c d).symm]
  generalize b ++ encs (nL nP s.2.2.2.2.2.2.2.2.1) = b at *
  show stdW.call (ref33_positions b s.2.2.2.2.2.2.2.2.2.1) _ = _
  rw [call_eq (rf_positions k.left)]
  have k := k.right
  rw [encs_app]
  rw [show ∀ a c d : List Int, a ++ (c ++ d) = a ++ c ++ d from fun a c d => (List.append_assoc a c d).symm]
  generalize b ++ encs (nL nP s.2.2.2.2.2.2.2.2.2.1) = b at *
  show stdW.call (ref33_count b (s.2.2.2.2.2.2.2.2.2.2.1.length : Int)) _ = _
  have hi' := k.left.len fun x => by simp [nF, nU]
  refine rf_row nF (fun x => by simp [nF, nU]) k (fun k => ?_) (fun b' again => cnd_end _ _) (fun i hi b' hk again ha => ?_)
  rotate_left
  · show stdW.cnd (decide ((i : Int) < (s.2.2.2.2.2.2.2.2.2.2.1.length : Int))) (stdW.idx s.2.2.2.2.2.2.2.2.2.2.1 (i : Int) _) _ = _
    rw [cnd_lt hi, idx_w hi]
    show stdW.call (ref33_nums b' (nF s.2.2.2.2.2.2.2.2.2.2.1[i])) _ = _
    rw [call_eq (rf_nums hk)]
    show again (IntKind.i64.wrap ((i : Int) + 1), (_, ())) = _
    rw [i64_s i (by omega)]; exact ha
  clear hi'
  rw [encs_app]
  rw [show ∀ a c d : List Int, a ++ (c ++ d) = a ++ c ++ d from fun a c d => (List.append_assoc a c d).symm]
  generalize b ++ encs (nL nF s.2.2.2.2.2.2.2.2.2.2.1) = b at *
  rw [← List.append_nil (nL nH s.2.2.2.2.2.2.2.2.2.2.2.1)] at k
  show stdW.call (ref33_count b (s.2.2.2.2.2.2.2.2.2.2.2.1.length : Int)) _ = _
  have hi' := k.left.len fun x => by simp [nH, nU]
  refine rf_row nH (fun x => by simp [nH, nU]) k (fun k => ?_) (fun b' again => cnd_end _ _) (fun i hi b' hk again ha => ?_)
  rotate_left
  · show stdW.cnd (decide ((i : Int) < (s.2.2.2.2.2.2.2.2.2.2.2.1.length : Int))) (stdW.idx s.2.2.2.2.2.2.2.2.2.2.2.1 (i : Int) _) _ = _
    rw [cnd_lt hi, idx_w hi]
    generalize s.2.2.2.2.2.2.2.2.2.2.2.1[i] = x at *
    have k' : okN b' ([x.1.1, x.1.2.1, (x.2.1.length : Int)] ++ x.2.1.flatMap nA) := hk
    have l2 : x.2.1.length ≤ 1000000 := by
      have h1 := flat_len1 (f := nA) (fun x => by simp [nA]) x.2.1
      have := k'.right.2.2
      omega
    show stdW.call (ref33_nums b' [x.1.1, x.1.2.1, (x.2.1.length : Int)]) _ = _
    rw [call_eq (rf_nums k'.left)]
    refine rf_each (l := x.2.1) nA (by omega) k'.right ?_ ?_
    · intro again2
      show stdW.cnd (decide ((x.2.1.length : Int) < (x.2.1.length : Int))) _ (again (IntKind.i64.wrap ((i : Int) + 1), (_, ()))) = _
      rw [cnd_end, i64_s i (by omega), encs_j]; exact ha
    · intro j hj b2 hk2 again2 ha2
      show stdW.cnd (decide ((j : Int) < (x.2.1.length : Int))) (stdW.idx x.2.1 (j : Int) _) _ = _
      rw [cnd_lt hj, idx_w hj]
      show stdW.idx x.2.1 (j : Int) _ = _
      rw [idx_w hj]
      show stdW.idx x.2.1 (j : Int) _ = _
      rw [idx_w hj]
      show stdW.call (ref33_nums b2 (nA x.2.1[j])) _ = _
      rw [call_eq (rf_nums hk2)]
      show again2 (IntKind.i64.wrap ((j : Int) + 1), (_, ())) = _
      rw [i64_s j (by omega)]; exact ha2
  clear hi'
  rfl
end Go.Proofs.YtllkmncnmlmefaaGreat

namespace Go.Proofs.YtllkmncnmlmefaaGreat
open Go Go.Vc Go.RowKit
/-- a loop whose state is known round by round, as long as something holds -/
theorem loop_ai {X β : Type} {N : Nat} (hN : N < 9223372036854775808) {f : X → (X → Option β) → Option β} (st : Nat → X) (Inv : Nat → Prop) (r : Option β) {z0 : X} (hz : z0 = st 0) (h0 : Inv 0)
    (hend : Inv N → ∀ again : X → Option β, f (st N) again = r) (hstep : ∀ i, i < N → Inv i → ∀ again : X → Option β, (Inv (i + 1) → again (st (i + 1)) = r) → f (st i) again = r) : stdW.loop f z0 = r := by
  subst hz
  have key : ∀ n i, i ≤ N → N - i < n → Inv i → loopF n f (st i) = r := by
    intro n
    induction n with
    | zero => intro i _ h; omega
    | succ n ih =>
      intro i hi hn hv
      show f (st i) (loopF n f) = r
      by_cases h : i < N
      · exact hstep i h hv _ fun hv' => ih (i + 1) (by omega) (by omega) hv'
      · have : i = N := by omega
        subst this; exact hend hv _
  show loopF FU f (st 0) = r
  exact key FU 0 (Nat.zero_le _) (by rw [FU_eq]; omega) h0
/-! ### tables of instruments -/
/-! ### sums of bits, of any length -/
/-! ### the reference's gains -/
end Go.Proofs.YtllkmncnmlmefaaGreat
namespace Go.Proofs.YtllkmncnmlmefaaGreat
open Go Go.Vc Go.RowKit
end Go.Proofs.YtllkmncnmlmefaaGreat

namespace Go.Proofs.YtllkmncnmlmefaaGreat
open Go Go.Vc Go.RowKit
/-! ### What goes back, plain -/
def ltL (a b : ALot') : Prop := a.1 < b.1 ∨ (a.1 = b.1 ∧ a.2.1 < b.2.1)
instance (a b : ALot') : Decidable (ltL a b) := by unfold ltL; infer_instance
def rightL (x : ALot') : Prop := (1 ≤ x.1 ∧ x.1 ≤ 4) ∧ (0 ≤ x.2.1 ∧ x.2.1 ≤ 255) ∧ 0 < x.2.2.1
instance (x : ALot') : Decidable (rightL x) := by unfold rightL; infer_instance
def LInv (l : List ALot') : Prop := (∀ x ∈ l, rightL x) ∧ l.Pairwise ltL ∧ l.length ≤ 16
instance (l : List ALot') : Decidable (LInv l) := by unfold LInv; infer_instance
def isL (l : List ALot') : Bool := decide (LInv l)
def HInv (l : List AHold') : Prop := (∀ h ∈ l, h.2.1 ≠ [] ∧ LInv h.2.1) ∧ SrtA (l.map (·.1))
instance (l : List AHold') : Decidable (HInv l) := by unfold HInv SrtA; infer_instance
def isH (l : List AHold') : Bool := decide (HInv l)
/-! ### Accounts -/
def unitsA (a : AAccount') : List AUnit' := if a.2.2.1 = 1 then [(a.1, (0, ()))] else a.2.2.2.1.map fun c => (a.1, (c, ()))
theorem r_aunits {a : AAccount'} (h : a.2.2.2.1.length ≤ 1000) : acct_Units (a.1, (a.2.1, (a.2.2.1, (a.2.2.2.1, ())))) = some (unitsA a) := by
  show acct_UnitsW stdW a = _
  unfold acct_UnitsW unitsA
  by_cases hk : a.2.2.1 = 1
  · rw [cnd_y (by simpa using hk), if_pos hk]
  · rw [cnd_n (by simpa using hk), if_neg hk]
    refine loop_az (N := a.2.2.2.1.length) (by omega) (fun i => ((i : Int), ((a.2.2.2.1.take i).map (fun c => ((a.1, (c, ())) : AUnit')), ()))) _ rfl ?_ ?_
    · intro again
      show stdW.cnd (decide ((a.2.2.2.1.length : Int) < (a.2.2.2.1.length : Int))) _ (some _) = _
      rw [cnd_end, List.take_length]
    · intro i hi again ha
      show stdW.cnd (decide ((i : Int) < (a.2.2.2.1.length : Int))) (stdW.idx a.2.2.2.1 (i : Int) fun x3 => stdW.room (((a.2.2.2.1.take i).map (fun c => ((a.1, (c, ())) : AUnit'))).length + 1) 16 (again (IntKind.i64.wrap ((i : Int) + 1), ((a.2.2.2.1.take i).map (fun c => ((a.1, (c, ())) : AUnit')) ++ [(a.1, (x3, ()))], ())))) _ = _
      have : ((a.2.2.2.1.take i).map (fun c => ((a.1, (c, ())) : AUnit'))).length ≤ 1000 := by rw [List.length_map, List.length_take]; omega
      rw [cnd_lt hi, idx_w hi, room_w (by omega) (by omega), i64_s i (by omega)]
      rw [List.take_succ_eq_append_getElem hi, List.map_append] at ha
      exact ha
/-! ### Holds -/
theorem srt_next {α : Type} {f : α → AUnit'} {l : List α} {i : Nat} (hi : i < l.length) (inv : SrtA ((l.take i).map f)) (h2 : ∀ h0 : 0 < i, ltA (f (l[i - 1]'(by omega))) (f l[i])) : SrtA ((l.take (i + 1)).map f) := by
  rw [List.take_succ_eq_append_getElem hi, List.map_append]
  refine List.pairwise_append.2 ⟨inv, by simp, fun a ha b hb => ?_⟩
  simp only [List.map_cons, List.map_nil, List.mem_singleton] at hb
  subst hb
  obtain ⟨k, hk, hka⟩ := List.mem_iff_getElem.1 ha
  have hk' : k < i := by simp at hk; omega
  have h3 := h2 (by omega)
  by_cases hki : k = i - 1
  · subst hki; rw [← hka]; simpa using h3
  · have h4 := List.pairwise_iff_getElem.1 inv k (i - 1) (by simpa using hk) (by simp; omega) (by omega)
    rw [hka] at h4
    refine ltA_tr h4 ?_
    simpa using h3
/-! ### Give -/
/-! ### Tables -/
def few26 (l : List AHold') : List AHold' := (l.take 10).map fun h => ((h.1, (h.2.1.take 20, ())) : AHold')
theorem r_few18 {l : List ALot'} (hl : l.length ≤ 9223372036854775807) : law18_Few l = some (l.take 20) := by
  show law18_FewW stdW l = _
  unfold law18_FewW
  by_cases h : 20 < l.length
  · rw [cnd_y (decide_eq_true (by omega)), bnd_w (by omega) (by omega)]; rfl
  · rw [cnd_n (decide_eq_false (by omega)), List.take_of_length_le (by omega)]
theorem r_few26 {l : List AHold'} (hl : l.length ≤ 9223372036854775807) (hm : ∀ h ∈ l, h.2.1.length ≤ 9223372036854775807) : law26_Few l = some (few26 l) := by
  show law26_FewW stdW l = _
  unfold law26_FewW
  rw [join_w]
  have hm' : ∀ i (h : i < l.length), l[i].2.1.length ≤ 9223372036854775807 := fun i h => hm _ (List.getElem_mem h)
  refine (loop_std (fun z => l.length + 1 - z.1.toNat) (fun z => ∃ j : Nat, j ≤ l.length ∧ j ≤ 10 ∧ z = ((j : Int), (few26 (l.take j), ()))) (fun _ => some (few26 l)) ⟨0, Nat.zero_le _, Nat.zero_le _, rfl⟩ (by show _ - (0 : Int).toNat < _; omega) ?_)
  rintro _ ⟨j, hj, hj10, rfl⟩ again ha
  have ft : few26 (l.take j) = (l.take j).map fun h => ((h.1, (h.2.1.take 20, ())) : AHold') := by
    unfold few26; rw [List.take_take, Nat.min_eq_right hj10]
  show stdW.cnd (decide ((j : Int) < (l.length : Int))) (stdW.cnd (decide ((j : Int) < 10)) _ _) _ = _
  by_cases h : j < l.length
  · rw [cnd_lt h]
    by_cases h10 : j < 10
    · have ft1 : few26 (l.take (j + 1)) = few26 (l.take j) ++ [(l[j].1, (l[j].2.1.take 20, ()))] := by
        unfold few26; rw [List.take_take, List.take_take, Nat.min_eq_right hj10, Nat.min_eq_right (by omega), List.take_succ_eq_append_getElem h, List.map_append]; rfl
      have hlen : (few26 (l.take j)).length ≤ 10 := by rw [ft, List.length_map, List.length_take]; omega
      rw [cnd_y (decide_eq_true (by omega))]
      show stdW.idx l (j : Int) _ = _
      rw [idx_w h, idx_w h, call_eq (r_few18 (hm' j h))]
      show stdW.room ((few26 (l.take j)).length + 1) 40 (again (IntKind.i64.wrap ((j : Int) + 1), (few26 (l.take j) ++ [(l[j].1, (l[j].2.1.take 20, ()))], ()))) = _
      rw [room_w (by omega) (by omega), ← ft1, i64_s j (by omega)]
      exact ha _ ⟨j + 1, by omega, by omega, rfl⟩ (by show _ - ((j + 1 : Nat) : Int).toNat < _ - ((j : Nat) : Int).toNat; omega)
    · rw [cnd_n (decide_eq_false (by omega))]
      show some (few26 (l.take j)) = _
      have : j = 10 := by omega
      subst this
      unfold few26; rw [List.take_take, Nat.min_self]
  · have : j = l.length := by omega
    subst this
    rw [cnd_end, List.take_length]
def short25 (a : AAccount') : AAccount' := (a.1, (a.2.1, (a.2.2.1, (a.2.2.2.1.take 20, ()))))
theorem r_short {a : AAccount'} (hl : a.2.2.2.1.length ≤ 9223372036854775807) : law25_Short (a.1, (a.2.1, (a.2.2.1, (a.2.2.2.1, ())))) = some (short25 a) := by
  show law25_ShortW stdW a = _
  unfold law25_ShortW
  refine join_g fun k hk => ?_
  have kk : ∀ x : AAccount', k x = some x := by intro x; subst hk; rfl
  clear hk
  by_cases h : 20 < a.2.2.2.1.length
  · rw [cnd_y (decide_eq_true (by omega)), bnd_w (by omega) (by omega), kk]; rfl
  · rw [cnd_n (decide_eq_false (by omega)), kk]
    unfold short25
    rw [List.take_of_length_le (by omega)]
/-! ### Lots: whether they may be, just so -/
def cmpI (x y : Int) : Int := if x < y then -1 else if y < x then 1 else 0
theorem r_cmp1I (x y : Int) : cmp_Compare x y = some (cmpI x y) := by
  show cmp_CompareW stdW x y = _
  unfold cmp_CompareW cmpI
  have e : ∀ x : Int, cmp_isNaN x = some false := fun x => by
    show some (x != x) = _
    simp
  rw [call_eq (e x), call_eq (e y), cnd_n rfl, cnd_n rfl]
  by_cases h : x < y
  · rw [cnd_y (decide_eq_true h), if_pos h]
  · rw [cnd_n (decide_eq_false h), if_neg h]
    by_cases h2 : y < x
    · rw [cnd_y (decide_eq_true h2), if_pos h2]
    · rw [cnd_n (decide_eq_false h2), if_neg h2]
def orI : List Int → Int
  | [] => 0
  | x :: l => if x = 0 then orI l else x
theorem r_or1 (l : List Int) (hl : l.length ≤ 1000000) : cmp_Or l = some (orI l) := by
  show cmp_OrW stdW l = _
  unfold cmp_OrW
  refine loop_list (l := l) (by omega) (s0 := ()) (fun _ _ => True) (fun l' _ => some (orI l')) trivial ?_ ?_
  · rintro _ again _
    rw [cnd_end]; rfl
  · rintro i hi _ _ again ha
    rw [cnd_lt hi, idx_w hi]
    show _ = some (orI (l[i] :: l.drop (i + 1)))
    rw [orI]
    by_cases h0 : l[i] = 0
    · rw [cnd_n (by simp [h0]), if_pos h0]
      show again (IntKind.i64.wrap ((i : Int) + 1), ()) = _
      rw [i64_s i (by omega)]
      exact ha _ trivial
    · rw [cnd_y (by simp [h0]), if_neg h0]
theorem r_lorder1 (a b : ALot') : lots_order a b = some (orI [cmpI a.1 b.1, cmpI a.2.1 b.2.1]) := by
  show lots_orderW stdW a b = _
  unfold lots_orderW
  rw [call_eq (r_cmp1I _ _), call_eq (r_cmp1I _ _), call_eq (r_or1 _ (by simp))]
theorem lorder_lt (a b : ALot') : decide (0 ≤ orI [cmpI a.1 b.1, cmpI a.2.1 b.2.1]) = !decide (ltL a b) := by
  unfold ltL
  simp only [orI, cmpI]
  by_cases h1 : a.1 < b.1
  · simp [h1]
  · by_cases h2 : b.1 < a.1
    · have h3 : ¬ a.1 = b.1 := by omega
      simp [h1, h2, h3]
    · have h3 : a.1 = b.1 := by omega
      by_cases h4 : a.2.1 < b.2.1
      · simp [h3, h4]
      · by_cases h5 : b.2.1 < a.2.1 <;> simp [h3, h4, h5]
theorem r_lright1 (x : ALot') : lots_right x = some (decide (rightL x)) := by
  show lots_rightW stdW x = _
  unfold lots_rightW rightL
  by_cases h1 : 1 ≤ x.1
  · rw [cnd_y (decide_eq_true h1)]
    by_cases h2 : x.1 ≤ 4
    · rw [cnd_y (decide_eq_true h2)]
      by_cases h3 : 0 ≤ x.2.1
      · rw [cnd_y (decide_eq_true h3)]
        by_cases h4 : x.2.1 ≤ 255
        · rw [cnd_y (decide_eq_true h4)]; simp [h1, h2, h3, h4]
        · rw [cnd_n (decide_eq_false h4)]; simp [h4]
      · rw [cnd_n (decide_eq_false h3)]; simp [h3]
    · rw [cnd_n (decide_eq_false h2)]; simp [h2]
  · rw [cnd_n (decide_eq_false h1)]; simp [h1]
theorem r_one18 (x : ALot') : ref18_one x = some (decide (rightL x)) := by
  show ref18_oneW stdW x = _
  unfold ref18_oneW rightL
  by_cases h1 : 1 ≤ x.1
  · rw [cnd_y (decide_eq_true (by omega))]
    by_cases h2 : x.1 ≤ 4
    · rw [cnd_y (decide_eq_true (by omega))]
      by_cases h3 : 0 ≤ x.2.1
      · rw [cnd_y (decide_eq_true h3)]
        by_cases h4 : x.2.1 ≤ 255
        · rw [cnd_y (decide_eq_true (by omega))]; simp [h1, h2, h3, h4]
        · rw [cnd_n (decide_eq_false (by omega))]; simp [h4]
      · rw [cnd_n (decide_eq_false h3)]; simp [h3]
    · rw [cnd_n (decide_eq_false (by omega))]; simp [h2]
  · rw [cnd_n (decide_eq_false (by omega))]; simp [h1]
theorem r_less18 (a b : ALot') : ref18_less a b = some (decide (ltL a b)) := by
  show ref18_lessW stdW a b = _
  unfold ref18_lessW ltL
  by_cases h1 : a.1 < b.1
  · rw [cnd_y (decide_eq_true h1)]; simp [h1]
  · rw [cnd_n (decide_eq_false h1)]
    by_cases h2 : a.1 = b.1
    · rw [cnd_y (by simpa using h2)]; simp [h2]
    · rw [cnd_n (by simpa using h2)]; simp [h1, h2]
def LP (l : List ALot') : Prop := (∀ x ∈ l, rightL x) ∧ l.Pairwise ltL
theorem ltL_tr {a b c : ALot'} (h1 : ltL a b) (h2 : ltL b c) : ltL a c := by unfold ltL at *; omega
theorem LP_next {l : List ALot'} {i : Nat} (hi : i < l.length) (inv : LP (l.take i)) (h1 : rightL l[i]) (h2 : ∀ h0 : 0 < i, ltL (l[i - 1]'(by omega)) l[i]) : LP (l.take (i + 1)) := by
  rw [List.take_succ_eq_append_getElem hi]
  refine ⟨fun x hx => ?_, ?_⟩
  · rcases List.mem_append.1 hx with hx | hx
    · exact inv.1 x hx
    · simp at hx; rw [hx]; exact h1
  · refine List.pairwise_append.2 ⟨inv.2, by simp, fun a ha b hb => ?_⟩
    simp only [List.mem_singleton] at hb
    subst hb
    obtain ⟨k, hk, hka⟩ := List.mem_iff_getElem.1 ha
    have hk' : k < i := by simp at hk; omega
    have h3 := h2 (by omega)
    by_cases hki : k = i - 1
    · subst hki; rw [← hka]; simpa using h3
    · have h4 := List.pairwise_iff_getElem.1 inv.2 k (i - 1) (by simpa using hk) (by simp; omega) (by omega)
      rw [hka] at h4
      refine ltL_tr h4 ?_
      simpa using h3
theorem isL_end {l : List ALot'} (h : LP (l.take l.length)) : isL l = decide ((l.length : Int) ≤ 16) := by
  rw [List.take_length] at h
  unfold isL LInv
  refine decide_eq_decide.2 ⟨fun h => by omega, fun h3 => ⟨h.1, h.2, by omega⟩⟩
theorem isL_bad0 {l : List ALot'} {i : Nat} (hi : i < l.length) (h : ¬ rightL l[i]) : isL l = false :=
  decide_eq_false fun hp => h (hp.1 _ (List.getElem_mem hi))
theorem isL_bad1 {l : List ALot'} {i : Nat} (hi : i < l.length) (h0 : 0 < i) (h : ¬ ltL (l[i - 1]'(by omega)) l[i]) : isL l = false :=
  decide_eq_false fun hp => h (List.pairwise_iff_getElem.1 hp.2.1 (i - 1) i (by omega) hi (by omega))
theorem r_lis1 {l : List ALot'} (hl : l.length ≤ 1000000) : lots_Is l = some (isL l) := by
  show lots_IsW stdW l = _
  unfold lots_IsW
  refine loop_n (N := l.length) (by omega) (fun i _ => LP (l.take i)) (some (isL l)) (by simp [LP]) ?_ ?_
  · rintro _ again h
    rw [cnd_end, isL_end h]
  · rintro i hi _ inv again ha
    rw [cnd_lt hi, idx_w hi]
    refine join_g fun k hk => ?_
    have kt : k (true, ()) = some false := by subst hk; rfl
    have kf : k (false, ()) = again (((i + 1 : Nat) : Int), ()) := by rw [← i64_s i (by omega)]; subst hk; rfl
    clear hk
    rw [call_eq (r_lright1 _)]
    by_cases h1 : rightL l[i]
    · rw [cnd_n (by simp [h1])]
      by_cases h0 : 0 < i
      · rw [cnd_y (decide_eq_true (by omega)), i64_pred i h0 (by rw [maxLen_eq]; omega), idx_w (by omega), call_eq (r_lorder1 _ _), two_w, lorder_lt]
        by_cases h2 : ltL (l[i - 1]'(by omega)) l[i]
        · rw [decide_eq_true h2]
          exact kf.trans (ha _ (LP_next hi inv h1 fun _ => h2))
        · rw [decide_eq_false h2, isL_bad1 hi h0 h2]; exact kt
      · rw [cnd_n (decide_eq_false (by omega)), two_w]
        exact kf.trans (ha _ (LP_next hi inv h1 fun h => absurd h h0))
    · rw [cnd_y (by simp [h1]), two_w, kt, isL_bad0 hi h1]
theorem r_is18 {l : List ALot'} (hl : l.length ≤ 1000000) : ref18_Is l = some (isL l) := by
  show ref18_IsW stdW l = _
  unfold ref18_IsW
  refine loop_n (N := l.length) (by omega) (fun i _ => LP (l.take i)) (some (isL l)) (by simp [LP]) ?_ ?_
  · rintro _ again h
    rw [cnd_end, isL_end h]
  · rintro i hi _ inv again ha
    rw [cnd_lt hi]
    refine join_g fun k hk => ?_
    have kt : k (true, ()) = some false := by subst hk; rfl
    have kf : k (false, ()) = again (((i + 1 : Nat) : Int), ()) := by rw [← i64_s i (by omega)]; subst hk; rfl
    clear hk
    rw [idx_w hi, call_eq (r_one18 _)]
    by_cases h1 : rightL l[i]
    · rw [cnd_n (by simp [h1])]
      by_cases h0 : 0 < i
      · rw [cnd_y (decide_eq_true (by omega)), i64_pred i h0 (by rw [maxLen_eq]; omega), idx_w (by omega), idx_w hi, call_eq (r_less18 _ _), two_w]
        by_cases h2 : ltL (l[i - 1]'(by omega)) l[i]
        · rw [decide_eq_true h2]
          exact kf.trans (ha _ (LP_next hi inv h1 fun _ => h2))
        · rw [decide_eq_false h2, isL_bad1 hi h0 h2]; exact kt
      · rw [cnd_n (decide_eq_false (by omega)), two_w]
        exact kf.trans (ha _ (LP_next hi inv h1 fun h => absurd h h0))
    · rw [cnd_y (by simp [h1]), two_w, kt, isL_bad0 hi h1]
/-! ### Holds: whether they may be, just so -/
def HP (l : List AHold') : Prop := (∀ h ∈ l, h.2.1 ≠ [] ∧ LInv h.2.1) ∧ SrtA (l.map (·.1))
theorem HP_next {l : List AHold'} {i : Nat} (hi : i < l.length) (inv : HP (l.take i)) (h1 : l[i].2.1 ≠ [] ∧ LInv l[i].2.1) (h2 : ∀ h0 : 0 < i, ltA (l[i - 1]'(by omega)).1 l[i].1) : HP (l.take (i + 1)) := by
  refine ⟨fun x hx => ?_, srt_next hi inv.2 h2⟩
  rw [List.take_succ_eq_append_getElem hi] at hx
  rcases List.mem_append.1 hx with hx | hx
  · exact inv.1 x hx
  · simp at hx; rw [hx]; exact h1
theorem isH_end {l : List AHold'} (h : HP (l.take l.length)) : isH l = true := by rw [List.take_length] at h; exact decide_eq_true h
theorem isH_bad0 {l : List AHold'} {i : Nat} (hi : i < l.length) (h : l[i].2.1 = []) : isH l = false := decide_eq_false fun hp => (hp.1 _ (List.getElem_mem hi)).1 h
theorem isH_bad1 {l : List AHold'} {i : Nat} (hi : i < l.length) (h : isL l[i].2.1 = false) : isH l = false := decide_eq_false fun hp => of_decide_eq_false h (hp.1 _ (List.getElem_mem hi)).2
theorem isH_bad2 {l : List AHold'} {i : Nat} (hi : i < l.length) (h0 : 0 < i) (h : ¬ ltA (l[i - 1]'(by omega)).1 l[i].1) : isH l = false :=
  decide_eq_false fun hp => h (by
    have := List.pairwise_iff_getElem.1 hp.2 (i - 1) i (by simp; omega) (by simpa using hi) (by omega)
    simpa using this)
/-! ### lots: one more, some less (plain) -/
/-! ### where a lot is found by halves -/
/-! ### A unit's lots put in its place -/
/-! ### Holds, as the document puts and moves them -/
/-! ### Choices without a part's -/
end Go.Proofs.YtllkmncnmlmefaaGreat
namespace Go.Proofs.YtllkmncnmlmefaaGreat
open Go Go.Vc Go.RowKit
end Go.Proofs.YtllkmncnmlmefaaGreat

namespace Go.Proofs.YtllkmncnmlmefaaGreat
open Go Go.Vc Go.RowKit
/-! ### what collateral is worth, what is passed, what is sold (plain) -/
/-! ### assets, what lots are worth, what a unit owes, what room it has -/
def okA1 (a : AAsset') : Prop := (1 ≤ a.1 ∧ a.1 ≤ 4) ∧ (0 ≤ a.2.1 ∧ a.2.1 ≤ 2147483647) ∧ (0 ≤ a.2.2.1 ∧ a.2.2.1 ≤ 10000)
instance (a : AAsset') : Decidable (okA1 a) := by unfold okA1; infer_instance
theorem r_asPriced (p : Int) : asset_priced p = some (decide (0 ≤ p) && decide (p ≤ 2147483647)) := by
  show asset_pricedW stdW p = _
  unfold asset_pricedW
  by_cases h : 0 ≤ p
  · rw [cnd_y (decide_eq_true h), decide_eq_true h]; rfl
  · rw [cnd_n (decide_eq_false h), decide_eq_false h]; rfl
/-! ### division; how much is worth an amount -/
/-! the code's division, of a number of 64 bits from 0 on -/
end Go.Proofs.YtllkmncnmlmefaaGreat
namespace Go.Proofs.YtllkmncnmlmefaaGreat
open Go Go.Vc Go.RowKit Lot
/-! ### lots: the code and the document -/
end Go.Proofs.YtllkmncnmlmefaaGreat
namespace Go.Proofs.YtllkmncnmlmefaaGreat
open Go Go.Vc Go.RowKit
/-! ### holds: the code -/
/-! ### lots and holds: the document -/
end Go.Proofs.YtllkmncnmlmefaaGreat
namespace Go.Proofs.YtllkmncnmlmefaaGreat
open Go Go.Vc Go.RowKit
set_option synthInstance.maxSize 100000
set_option synthInstance.maxHeartbeats 0
/-! ### selling: the code -/
end Go.Proofs.YtllkmncnmlmefaaGreat

namespace Go.Proofs.YtllkmncnmlmefaaGreat
open Go Go.Vc Go.RowKit
set_option synthInstance.maxSize 100000
set_option synthInstance.maxHeartbeats 0
/-! ### paying: the code -/
/-! ### the document: what a unit owes, its room, a payment -/
end Go.Proofs.YtllkmncnmlmefaaGreat

namespace Go.Proofs.YtllkmncnmlmefaaGreat
open Go Go.Vc Go.RowKit
set_option synthInstance.maxSize 100000
set_option synthInstance.maxHeartbeats 0
/-! ### the document: what lots are worth, the room -/
end Go.Proofs.YtllkmncnmlmefaaGreat

namespace Go.Proofs.YtllkmncnmlmefaaGreat
open Go Go.Vc Go.RowKit
set_option synthInstance.maxSize 100000
set_option synthInstance.maxHeartbeats 0
set_option maxHeartbeats 4000000
/-! ### selling: the document -/
end Go.Proofs.YtllkmncnmlmefaaGreat

namespace Go.Proofs.YtllkmncnmlmefaaGreat
open Go Go.Vc Go.RowKit
set_option synthInstance.maxSize 100000
set_option synthInstance.maxHeartbeats 0
/-! ### paying: the document -/
end Go.Proofs.YtllkmncnmlmefaaGreat

namespace Go.Proofs.YtllkmncnmlmefaaGreat
open Go Go.Vc Go.RowKit
set_option maxRecDepth 1000000
end Go.Proofs.YtllkmncnmlmefaaGreat

namespace Go.Proofs.YtllkmncnmlmefaaGreat
open Go Go.Vc Go.RowKit
/-! ### A state of none too many -/
/-! ### The same -/
/-! ### what is sold and paid keeps to its bounds -/
/-! ### the same -/
/-! ### few assets -/
/-! ### A state of none too many -/
end Go.Proofs.YtllkmncnmlmefaaGreat