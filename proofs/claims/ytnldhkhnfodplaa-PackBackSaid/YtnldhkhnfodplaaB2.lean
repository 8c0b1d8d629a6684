import Derived.Test.YtnldhkhnfodplaaB1
import Derived.Test.YtnldhkhnfodplaaRows
namespace Go.Proofs.Ytnldhkhnfodplaa
open Go Go.Vc Go.RowKit

theorem opn_u8s : Opn Try.prog 41 (List Int) (fun l => [rBs l]) (fun l => (∀ a ∈ l, (Lit.int .u8 a).wf = true) ∧ l.length ≤ maxLen) := Opn.slice Try.underlying41 (by kernel_rfl) opn_u8

set_option maxRecDepth 100000 in
theorem cut_ct (l : List Int) (k : Nat) : Ct Try.prog 35 [rBs l, rI k] (rBs (l.take k)) := by
  refine ct_start [] Try.func35 rfl (by decide +kernel) rfl ?_
  intro a n c h0 h1 h2 U w H
  simp only [List.length_map] at h0; subst h0
  apply And.intro <;> intro h
  · have h20 : (k : Int) < (l.length : Int) := of_decide_eq_true h
    refine ⟨Int.natCast_nonneg _, by omega, ?_⟩
    intro w' s
    have H := H.pre (List.Mem.head _) k (by omega)
    rw [← List.map_take] at H
    exact H.r s
  · have h20 : ¬ (k : Int) < (l.length : Int) := of_decide_eq_false h
    rw [List.take_of_length_le (by omega)]
    intro w' s
    exact H.r s

theorem encT_len' (s : ByteArray) (h : s.size ≤ 300) : (encT s).length ≤ 310 := by
  have := encU_len10 (fold_lt (s.size : Int) (by omega))
  simp [encT, sB_length]; omega
theorem encU_byte : ∀ (u : Nat), ∀ z ∈ encU u, 0 ≤ z ∧ z < 256 := by
  intro u
  induction u using Nat.strongRecOn with
  | ind u ih =>
    intro z hz
    rcases Nat.lt_or_ge u 128 with h | h
    · rw [encU_lt h] at hz; simp at hz; omega
    · rw [encU_ge h] at hz
      rcases List.mem_cons.1 hz with rfl | hz
      · omega
      · exact ih (u / 128) (by omega) z hz
theorem encs_byte (l : List Int) : ∀ z ∈ encs l, 0 ≤ z ∧ z < 256 := by
  intro z hz
  simp only [encs, List.mem_flatMap] at hz
  obtain ⟨n, _, hz⟩ := hz
  exact encU_byte _ z hz
theorem sB_byte (s : ByteArray) : ∀ z ∈ sB s, 0 ≤ z ∧ z < 256 := by
  intro z hz
  simp only [sB, List.mem_map] at hz
  obtain ⟨b, _, rfl⟩ := hz
  have := b.toNat_lt; omega
theorem encT_byte (s : ByteArray) : ∀ z ∈ encT s, 0 ≤ z ∧ z < 256 := by
  intro z hz
  rcases List.mem_append.1 hz with hz | hz
  · exact encU_byte _ z hz
  · exact sB_byte s z hz
theorem i64sOk : ElemOk Try.prog 42 2 1 8 := by
  obtain ⟨i, h1, h2, h3, h4⟩ := i64Info
  exact ⟨Try.underlying42, ⟨i, _, h1, h2, h3, h4, rfl⟩, by decide⟩
theorem ok64.of {n : Int} (h : Is64 n) : ok64 n := by
  unfold Is64 at h; simp [ok64, Lit.wf, IntKind.min, IntKind.max, IntKind.signed, IntKind.bits]; omega
structure BS1 where
  i : Nat
  a : Option Addr
  c : Nat
structure BS2 where
  i : Nat
  bs : List Int
  e : Int
  wb : List Int
  a : Option Addr
  c : Nat
  wa : Option Addr
  wc : Nat
def ordBack : Ords := [(6, [(0, true), (2, true), (3, true), (4, true), (5, true), (1, false), (6, true)])]
theorem encs_drop (l : List Int) (i : Nat) (h : i < l.length) : encs (l.drop i) = encU (fold l[i]) ++ encs (l.drop (i + 1)) := by
  unfold encs; rw [List.drop_eq_getElem_cons h, List.flatMap_cons]

set_option maxRecDepth 100000 in
theorem packBack_ct (l : List Int) (s : ByteArray) (b : List Int) (hl : (∀ a ∈ l, ok64 a) ∧ l.length ≤ maxLen) (_ : s.size ≤ maxLen) (hb : (∀ a ∈ b, (Lit.int .u8 a).wf = true) ∧ b.length ≤ maxLen) : Ct Try.prog 7 [rIs l, rS s, rBs b] (rB true) := by
  refine ct_startS ordBack Try.func7 rfl (by decide +kernel) rfl ?_
  intro a n c h0 h1 h2 ba bn bc h3 h4 h5 U w H
  simp only [List.length_map] at h0 h3; subst h0 h3
  intro w1 t
  refine H.c t (numbers_ct l) ?_
  intro a n c h0 h1 h2 w2 H
  simp only [List.length_map] at h0; subst h0
  intro w3 t
  refine H.c t (short_ct s) ?_
  intro w4 H w5 t
  refine H.c t (cut_ct b 60) ?_
  intro ba bn bc h3 h4 h5 w6 H
  simp only [List.length_map] at h3; subst h3
  generalize hl' : l.take 20 = l' at *
  generalize hs' : cut300 s = s' at *
  generalize hb' : b.take 60 = b' at *
  have hl2 : ∀ z ∈ l', ok64 z := fun z hz => hl.1 z (by rw [← hl'] at hz; exact List.mem_of_mem_take hz)
  have hl3 : l'.length ≤ 20 := by rw [← hl']; simp; omega
  have hs2 : s'.size ≤ 300 := by rw [← hs']; exact cut300_size s
  have hb2 : ∀ z ∈ b', 0 ≤ z ∧ z < 256 := fun z hz => by have := bounds_u8 (hb.1 z (by rw [← hb'] at hz; exact List.mem_of_mem_take hz)); omega
  have hb3 : b'.length ≤ 60 := by rw [← hb']; simp; omega
  intro w7 t
  refine H.cg (os1 := []) t new_ct ?_
  rintro _ _ _ w8 ⟨g, rfl, rfl, rfl⟩ H
  intro w9 t
  refine H.cg (os1 := [_]) t (wInt_ct g none 0 [] (by simp) a _ c l' hl2 (by omega)) ?_
  rintro _ _ _ w10 ⟨wa, wc, rfl, rfl, rfl⟩ H
  have hen := encs_len l' fun z hz => (hl2 z hz).is
  have hte := encT_len' s' hs2
  intro w11 t
  refine H.cg (os1 := [_]) t (wText_ct g wa wc ([] ++ encs l') (by simp; omega) s' (by omega)) ?_
  rintro _ _ _ w12 ⟨wa, wc, rfl, rfl, rfl⟩ H
  intro w13 t
  refine H.cg (os1 := [_]) t (wDone_ct g wa wc _ (by simp; omega)) ?_
  rintro _ _ _ w14 ⟨da, dc, rfl, rfl, rfl⟩ H
  have hD : ∀ z ∈ [] ++ encs l' ++ encT s', 0 ≤ z ∧ z < 256 := fun z hz => by
    rcases List.mem_append.1 hz with hz | hz
    · exact encs_byte l' z (by simpa using hz)
    · exact encT_byte s' z hz
  intro w15 t
  refine H.cg (os1 := []) t (open_ct da _ dc _ (by simp; omega) hD) ?_
  rintro _ _ _ w16 ⟨rb, g1, ra, rc, rfl, rfl, rfl⟩ H
  have H := (H.weak (os' := [Own.rd rb g1 ra rc ([] ++ encs l' ++ encT s') 0]) (List.Sublist.refl _) (by simp) (fun p h => h)).keep [(.slice a l'.length c, rIs l'), (.slice ba b'.length bc, rBs b')]
  rw [List.nil_append] at H
  refine ⟨[6, 8, 25, 26, 27, 28, 29, 30, 31, 32, 33, 34, 35, 36, 37],
    { X := BS1, slots := [8], vals := fun x => [.int .i64 x.i], boxes := [], cells := fun _ => [],
      inv := fun x w' => Ctx w U [] [] [Own.rd rb g1 x.a x.c (encs (l'.drop x.i) ++ encT s') 0] [(.slice a l'.length c, rIs l'), (.slice ba b'.length bc, rBs b')] w' ∧ x.i ≤ l'.length, μ := fun x => l'.length - x.i }, by kernel_rfl, ?_, ?_, ?_⟩
  · intro x; exact ⟨⟨trivial, trivial⟩, trivial⟩
  · intro w' t
    exact ⟨⟨0, ra, rc⟩, rfl, by simpa using H.sync t, Nat.zero_le _⟩
  · rintro ⟨i, ra, rc⟩ w0 ⟨H, hi⟩
    dsimp only at H hi
    apply And.intro <;> intro t1
    · have hin : i < l'.length := by have := (of_decide_eq_true t1 : (i : Int) < (l'.length : Int)); omega
      rw [encs_drop l' i hin, List.append_assoc] at H
      refine ⟨by decide +kernel, g1 :: rb, ?_⟩
      refine H.at (els := l'.map fun n => [.val (.int .i64 n)]) (i := i) (cs := [.val (.int .i64 l'[i])]) (by simp [hin]) (Nat.succ_pos _) ?_
      rintro ad rfl hnb H hus hat
      refine ⟨ad, rfl, Int.natCast_nonneg _, of_decide_eq_true t1, fun hm => Us.own (hnb _) (by simpa [ownBl, Own.rd] using hm), _, hat.1, trivial, ?_⟩
      intro w1 t
      refine H.cgS (os1 := [_]) t (ExtS.refl (g1 :: rb) _ _) (fun b hb => by simpa [ownBl, Own.rd] using hb) (rdInt_ct rb g1 ra rc _ 0 (-9223372036854775808) 9223372036854775807) ?_
      rintro _ _ _ w2 ⟨ra', rc', rfl, rfl, rfl⟩ H E
      rw [rdInt_enc l'[i] (hl2 _ (List.getElem_mem hin)).is _ _ _ (hl2 _ (List.getElem_mem hin)).is]
      rw [rdInt_enc l'[i] (hl2 _ (List.getElem_mem hin)).is _ _ _ (hl2 _ (List.getElem_mem hin)).is] at H
      refine ⟨E, ?_⟩
      apply And.intro <;> intro t2
      · exact absurd t2 (by simp)
      intro w3 t
      exact ⟨⟨i + 1, ra', rc'⟩, xInc (by dsimp only; omega), ⟨(H.sync t).keep _, hin⟩, by show l'.length - (i + 1) < l'.length - i; omega⟩
    · have hie : i = l'.length := by have := (of_decide_eq_false t1 : ¬ (i : Int) < (l'.length : Int)); omega
      subst hie
      rw [List.drop_length] at H
      intro w1 t
      refine H.cg (os1 := [_]) t (rdText_ct rb g1 ra rc _ 0 300) ?_
      rintro _ _ _ w2 ⟨ra', rc', s2, rfl, hs2, rfl, rfl⟩ H
      have e1 : rdText (encs [] ++ encT s') 0 300 = (sB s', [], 0) := rdText_enc s' 300 (by omega) (by omega)
      rw [e1] at H hs2
      have e2 : s2 = s' := sB_inj hs2
      subst e2
      apply And.intro <;> intro t2
      rotate_left
      · exact absurd t2 (by simp [notIf])
      intro w3 t
      refine H.cg (os1 := [_]) t (rdEnd_ct rb g1 ra' rc' [] 0) ?_
      rintro _ _ _ w4 ⟨rfl, rfl, rfl⟩ H
      have H := (H.weak (os' := []) (List.Sublist.refl _) (by simp) (fun p h => h)).keep [(.slice ba b'.length bc, rBs b')]
      apply And.intro <;> intro t3
      · exact absurd t3 (by simp)
      intro w5 t
      refine H.cg (os1 := []) t (open_ct ba _ bc b' (by omega) hb2) ?_
      rintro _ _ _ w6 ⟨rb, g1, ra, rc, rfl, rfl, rfl⟩ H
      intro w7 t
      refine H.cg (os1 := []) t new_ct ?_
      rintro _ _ _ w8 ⟨g, rfl, rfl, rfl⟩ H
      refine ⟨[9, 10, 11, 50, 51, 52, 53, 54, 55, 56, 57, 58, 59, 60, 61, 62, 63, 64, 65, 66, 67],
        { X := BS2, slots := [9, 10], vals := fun x => [.ptr ⟨g, 0, none⟩, .int .i64 x.i], boxes := [], cells := fun _ => [],
          inv := fun x w' => Ctx w U [] [] [Own.rd rb g1 x.a x.c x.bs x.e, Own.wr g x.wa x.wc x.wb] [(.slice ba b'.length bc, rBs b')] w' ∧ x.i ≤ 60 ∧ x.wb.length ≤ 10 * x.i ∧ (∀ z ∈ x.bs, 0 ≤ z ∧ z < 256) ∧ (x.e = 0 → b' = x.wb ++ x.bs), μ := fun x => 60 - x.i }, by kernel_rfl, ?_, ?_, ?_⟩
      · intro x; exact ⟨⟨trivial, trivial, trivial⟩, trivial⟩
      · intro w' t
        exact ⟨⟨0, b', 0, [], ra, rc, none, 0⟩, rfl, rfl, (H.swap.sync t).keep _, Nat.zero_le _, Nat.zero_le _, hb2, fun _ => rfl⟩
      · rintro ⟨i, bs, e, wb, ra, rc, wa, wc⟩ w0 ⟨H, hi, hwb, hbs, hcan⟩
        dsimp only at H hi hwb hbs hcan
        apply And.intro <;> intro t4
        · intro w1 t
          refine H.cg (os1 := [_]) t (rdLeft_ct rb g1 ra rc bs e) ?_
          rintro _ _ _ w2 ⟨rfl, rfl, rfl⟩ H
          apply And.intro <;> intro t5
          · have hi60 : i < 60 := by have := (of_decide_eq_true t4 : (i : Int) < 60); omega
            intro w3 t
            refine H.cg (os1 := [_]) t (rdInt_ct rb g1 ra rc bs e (-9223372036854775808) 9223372036854775807) ?_
            rintro _ _ _ w4 ⟨ra', rc', rfl, rfl, rfl⟩ H
            have hbs' := rdInt_bytes bs e (-9223372036854775808) 9223372036854775807 hbs
            have hcn := rdInt_canon' bs e (-9223372036854775808) 9223372036854775807 hbs
            have hee := rdInt_err bs e (-9223372036854775808) 9223372036854775807
            generalize rdInt bs e (-9223372036854775808) 9223372036854775807 = q at *
            obtain ⟨n, bs', e'⟩ := q
            dsimp only at *
            intro w5 t
            refine H.cg (os1 := [_]) t (rdErr_ct rb g1 ra' rc' bs' e') ?_
            rintro _ _ _ w6 ⟨rfl, rfl, rfl⟩ H
            apply And.intro <;> intro t6
            · have he' : e' = 0 := by simpa using t6
              subst he'
              have he : e = 0 := hee rfl
              obtain ⟨hc1, hc2⟩ := hcn he rfl
              have hn10 := encU_len10 (fold_lt n hc2)
              intro w7 t
              refine Ctx.lit i64sOk H t (els := [[.val (.int .i64 n)]]) [.int .i64 n] rfl ⟨rfl, ⟨⟨rfl, trivial⟩, rfl⟩, trivial⟩ rfl (by decide) (by decide) ?_
              intro lb w8 H w9 t
              refine H.swap.cg (os1 := [_]) t (wInt_ct g wa wc wb (by omega) (some ⟨lb, 0, none⟩) 1 1 [n] (fun z hz => by simp at hz; subst hz; exact ok64.of hc2) (by simp)) ?_
              rintro _ _ _ w10 ⟨wa', wc', rfl, rfl, rfl⟩ H
              intro w11 t
              refine ⟨⟨i + 1, bs', 0, wb ++ encs [n], ra', rc', wa', wc'⟩, rfl, xInc (by rw [maxLen_eq]; show i + 1 ≤ _; omega), ⟨(H.swap.sync t).keep _, by show i + 1 ≤ 60; omega, ?_, hbs', fun _ => ?_⟩, by show 60 - (i + 1) < 60 - i; omega⟩
              · show (wb ++ encs [n]).length ≤ 10 * (i + 1); simp [encs]; omega
              · rw [hcan he]; show wb ++ bs = wb ++ encs [n] ++ bs'; rw [hc1]; simp [encs]
            · have he' : ¬ e' = 0 := by simpa using t6
              intro w7 t
              exact ⟨⟨i + 1, bs', e', wb, ra', rc', wa, wc⟩, rfl, xInc (by rw [maxLen_eq]; show i + 1 ≤ _; omega), ⟨(H.sync t).keep _, by show i + 1 ≤ 60; omega, by show wb.length ≤ 10 * (i + 1); omega, hbs', fun h => absurd h he'⟩, by show 60 - (i + 1) < 60 - i; omega⟩
          · intro w7 t
            refine H.cg (os1 := [_]) t (rdEnd_ct rb g1 ra rc bs e) ?_
            rintro _ _ _ w8 ⟨rfl, rfl, rfl⟩ H
            apply And.intro <;> intro t7
            · have hz : e = 0 ∧ bs = [] := by
                have : (if e ≠ 0 then e else if bs = [] then (0 : Int) else 5) = 0 := by simpa using t7
                split at this
                · contradiction
                · split at this
                  · exact ⟨by omega, by assumption⟩
                  · contradiction
              obtain ⟨rfl, rfl⟩ := hz
              have hw := hcan rfl
              rw [List.append_nil] at hw
              subst hw
              intro w9 t
              refine H.swap.cg (os1 := [_]) t (wDone_ct g wa wc b' (by omega)) ?_
              rintro _ _ _ w10 ⟨da, dc, rfl, rfl, rfl⟩ H
              intro w11 t
              refine H.c t (same_ct b' b' (by omega)) ?_
              intro w12 H
              apply And.intro <;> intro t8
              · intro w13 t
                refine H.c t plives_ct ?_
                intro w14 H w15 t
                exact H.r t
              · exact absurd t8 (by simp)
            · intro w9 t
              refine H.c t plives_ct ?_
              intro w10 H w11 t
              exact H.r t
        · intro w7 t
          refine H.cg (os1 := [_]) t (rdEnd_ct rb g1 ra rc bs e) ?_
          rintro _ _ _ w8 ⟨rfl, rfl, rfl⟩ H
          apply And.intro <;> intro t7
          · have hz : e = 0 ∧ bs = [] := by
              have : (if e ≠ 0 then e else if bs = [] then (0 : Int) else 5) = 0 := by simpa using t7
              split at this
              · contradiction
              · split at this
                · exact ⟨by omega, by assumption⟩
                · contradiction
            obtain ⟨rfl, rfl⟩ := hz
            have hw := hcan rfl
            rw [List.append_nil] at hw
            subst hw
            intro w9 t
            refine H.swap.cg (os1 := [_]) t (wDone_ct g wa wc b' (by omega)) ?_
            rintro _ _ _ w10 ⟨da, dc, rfl, rfl, rfl⟩ H
            intro w11 t
            refine H.c t (same_ct b' b' (by omega)) ?_
            intro w12 H
            apply And.intro <;> intro t8
            · intro w13 t
              refine H.c t plives_ct ?_
              intro w14 H w15 t
              exact H.r t
            · exact absurd t8 (by simp)
          · intro w9 t
            refine H.c t plives_ct ?_
            intro w10 H w11 t
            exact H.r t
end Go.Proofs.Ytnldhkhnfodplaa

namespace Go.Proofs.Ytnldhkhnfodplaa
open Go Go.Vc Go.RowKit Go.ChangeShapes Go.WideShapes Go.ChangeAt Go.Joins

theorem own : ownKnob Try.prog.godebug = none := by kernel_rfl
theorem laidOut : laidOutB Try.prog = true := by kernel_rfl
theorem trod_places {H : Type} {enc : TypeId × Value → H} {w : World} {spare : Nat → Bool} {held : Bool} {t : TypeId} {v : Value} {d : DataW H} {p : List MemPlace} (h : DataW.Trod enc Try.prog w 0 spare held t v d p) : ∀ x ∈ p, x.block < w.heap.size := by
  obtain ⟨m, hm⟩ := h; exact DataW.trod_lt m _ _ _ hm
end Go.Proofs.Ytnldhkhnfodplaa
