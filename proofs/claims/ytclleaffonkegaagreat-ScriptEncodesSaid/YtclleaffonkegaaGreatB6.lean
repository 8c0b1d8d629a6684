import Derived.Test.YtclleaffonkegaaGreatB5
import Derived.Laws.Externs
import Derived.Shelf.Spec.SlicesGrow
namespace Go.Vc
open Go Go.RowKit
end Go.Vc

namespace Go.Vc
open Go Go.RowKit
theorem elemOk_of {P : Program} {t e : TypeId} {size bytes : Nat} (ht : P.underlying t = some (.slice e)) (h : (P.info? e).map (fun i => (i.zero.map (·.cells.size), i.size, i.bytes)) = some (some size, size, bytes)) (hp : 0 < size) : ElemOk P t e size bytes := by
  obtain ⟨i, hi, h⟩ := Option.map_eq_some_iff.1 h
  simp only [Prod.mk.injEq] at h
  obtain ⟨z, hz, hz2⟩ := Option.map_eq_some_iff.1 h.1
  exact ⟨ht, ⟨i, z, hi, hz, h.2.1, h.2.2, hz2⟩, hp⟩
theorem heap_push (w : World) (o : Obj) (b : Nat) (hb : b < w.heap.size) : (w.alloc o).heap[b]? = w.heap[b]? := heap_alloc_old w o hb
theorem rowK {e : TypeId} {k g c n : Nat} {w : World} {cur : Array Value} {xs : List Value} (hg : w.heap[g]? = some (.cells cur e (0, 0))) (hs : cur.size = c * k) (hc : ∀ t u, xs[t]? = some u → w.cell? ⟨g, t, none⟩ = some u) (hxl : xs.length = n * k) (hn : n ≤ c) (hm : c ≤ maxLen) : w.ownsRow 0 e k (.slice (some ⟨g, 0, none⟩) n c) n xs := by
  refine ⟨hxl, .inr ⟨g, c, cur, rfl, Nat.zero_le _, hg, hn, hm, hs, ?_⟩⟩
  apply List.ext_getElem?
  intro t
  by_cases ht : t < n * k
  · rw [List.getElem?_take_of_lt ht, Array.getElem?_toList]
    have h1 := hc t _ (List.getElem?_eq_getElem (by omega))
    rw [cell_of_row w g t cur e (0, 0) hg] at h1
    rw [List.getElem?_eq_getElem (by omega)]
    exact h1
  · rw [List.getElem?_eq_none (by simp; omega), List.getElem?_eq_none (by omega)]
theorem oneD0 {j : Nat} {p q : DV} {i : Nat} (h : oneD j p i = some q) : i = j ∧ q = p := by
  unfold oneD at h
  split at h
  · rename_i hb; simp only [Option.some.injEq] at h; exact ⟨Nat.eq_of_beq_eq_true hb, h.symm⟩
  · cases h
/-- a call that turns a row that it is handed over into another one -/
theorem row_call {e : TypeId} {t : DT} {l l' : List t.den} {U0 : Nat → Prop} {B : Nat → Nat} {A : Asg} {w w' : World} {a : Option Addr} {c : Nat} (m : Mem w U0 (Ow B A [] [.own e t l]) B A [] [.own e t l] w)
    (hr : w'.os = w.os ∧ w'.tape = w.tape ∧ w'.output = w.output ∧ w.heap.size ≤ w'.heap.size) (hk : ∀ b, b < w.heap.size → (∀ ad, (A 0).1 = some ad → ad.block ≠ b) → w'.heap[b]? = w.heap[b]?)
    (ha : ∀ x, a = some x → (∃ ad, (A 0).1 = some ad ∧ ad.block = x.block) ∨ (w.heap.size ≤ x.block ∧ x.block < w'.heap.size))
    (hw : ∀ U', Later (Us U0 B A [] [.own e t l]) U' w w' → ∃ xs, w'.ownsRow 0 e t.size (.slice a l'.length c) l'.length xs ∧ t.hs U' w' l' xs) :
    ∃ B' A' r pb' rw', Mem w U0 (Ow B A [] [.own e t l]) B' A' pb' rw' w' ∧ r.h (env U0 B' A' pb' rw' w') (.slice a l'.length c) ∧ (∀ i, live [] i → live pb' i ∧ B' i = B i) ∧ pb' = [] ∧ (r, rw') = (DV.row 0, [DR.own e t l']) := by
  have hblk : ∀ b, blk B A [] [DR.own e t l] true 0 b ↔ ∃ ad, (A 0).1 = some ad ∧ ad.block = b := fun b => ⟨fun ⟨r, ad, _, _, h3, h4⟩ => ⟨ad, h3, h4⟩, fun ⟨ad, h3, h4⟩ => ⟨_, ad, rfl, by simp, h3, h4⟩⟩
  obtain ⟨m', s, _⟩ := m.putRow (al := fun _ => true) (j := 0) (f := oneD 0 .junk) (rw' := [.own e t l']) (e := e) (t := t) (l := l') (a := a) (c := c) rfl (fun i hi => by
      cases i with
      | zero => exact absurd rfl hi
      | succ i => rfl)
    (fun i p h => oneD0 h) (fun h => by simp [oneD] at h) (fun h => by simp [oneD] at h) hr (fun b hb hn => hk b hb fun ad h1 h2 => hn ((hblk b).2 ⟨ad, h1, h2⟩)) (fun x hx => (ha x hx).imp (fun h => (hblk _).2 h) id) hw
  refine ⟨B, _, .row 0, _, _, m', ?_, fun i ⟨b, hb⟩ => (by simp at hb), rfl, rfl⟩
  simp only [DV.h]
  exact ⟨e, t, l', rfl, by show _ = Value.slice (upd A 0 (a, c) 0).1 _ (upd A 0 (a, c) 0).2; rw [upd_same]⟩
end Go.Vc
namespace Go.Proofs.YtclleaffonkegaaGreat
open Go Go.Vc
end Go.Proofs.YtclleaffonkegaaGreat

namespace Go.Proofs.YtclleaffonkegaaGreat
open Go Go.Vc Go.RowKit Go.Shelf
def Tryz.growF_ren : Go.Shelf.Ren := ⟨fun | 4 => 418 | n => n, fun | 22 => 22 | 25 => 5 | 3 => 3 | 4 => 4 | 9 => 9 | 20 => 20 | 0 => 0 | n => n, fun n => n⟩
theorem Tryz.growF : Lays8.n4 Tryz.prog Tryz.growF_ren where
  mixed := by kernel_rfl
  f4 := ⟨Tryz.f418.name, by decide +kernel, Tryz.func418.trans (congrArg some (by kernel_rfl))⟩
  t0 := Tryz.underlying0
  a0 := Tryz.isAgg0
  z0 := Tryz.sizeOf0
  v0 := Tryz.zeroValue0
  t3 := Tryz.underlying3
  a3 := Tryz.isAgg3
  z3 := Tryz.sizeOf3
  v3 := Tryz.zeroValue3
  t4 := Tryz.underlying4
  a4 := Tryz.isAgg4
  z4 := Tryz.sizeOf4
  v4 := Tryz.zeroValue4
  t9 := Tryz.underlying9
  a9 := Tryz.isAgg9
  z9 := Tryz.sizeOf9
  v9 := Tryz.zeroValue9
  t20 := Tryz.underlying20
  a20 := Tryz.isAgg20
  z20 := Tryz.sizeOf20
  v20 := Tryz.zeroValue20
  t22 := Tryz.underlying22
  a22 := Tryz.isAgg22
  z22 := Tryz.sizeOf22
  v22 := Tryz.zeroValue22
end Go.Proofs.YtclleaffonkegaaGreat
namespace Go.Proofs.YtclleaffonkegaaGreat
open Go Go.Vc Go.RowKit Go.Lib Go.Shelf
/-! ### slices.Grow of bytes -/
theorem growb_s {l : List Int} {n : Int} {o : List Int × Unit} (h : growb l n = some o) : ∃ k : Nat, n = k ∧ (l.length + k) * 1 ≤ 140737488355328 ∧ o = (l, ()) := by
  unfold growb at h
  rcases bif_s h with ⟨hc, h⟩ | ⟨_, h⟩
  · simp only [Bool.and_eq_true, decide_eq_true_eq] at hc
    have h9 := Option.some.inj h
    obtain ⟨k, rfl⟩ := Int.eq_ofNat_of_zero_le hc.1
    exact ⟨k, rfl, by omega, h9.symm⟩
  · cases h
theorem elemOkBy : ElemOk Tryz.prog 22 5 1 1 := elemOk_of (by kernel_rfl) (by kernel_rfl) (by decide)
theorem hasBody418 : HasBody Tryz.prog 418 := ⟨_, Tryz.func418, by decide +kernel, rfl⟩
theorem growb_ok : LSok Tryz.prog 418 ⟨[], [.row 5 (.int .u8), .v (.int .i64)], [], .own 5 (.int .u8), fun z => growb z.1 z.2.1⟩ := by
  rintro ⟨l, n, ⟨⟩⟩ o ho U0 B A vs w m hv
  obtain ⟨n, rfl, hbig, rfl⟩ := growb_s (show growb l n = some o from ho)
  have hv : hL (env U0 B A [] [.own 5 (.int .u8) l] w) [.row 0, .int .i64 n] vs := hv
  have m : Mem w U0 (Ow B A [] [.own 5 (.int .u8) l]) B A [] [.own 5 (.int .u8) l] w := m
  show CallsX Tryz.prog 418 vs.toArray w fun v w' => ∃ B' A' r pb' rw', Mem w U0 (Ow B A [] [.own 5 (.int .u8) l]) B' A' pb' rw' w' ∧ r.h (env U0 B' A' pb' rw' w') v ∧ (∀ i, live [] i → live pb' i ∧ B' i = B i) ∧ pb' = [] ∧ (r, rw') = (DV.row 0, [DR.own 5 (.int .u8) l])
  simp only [hL, DV.h] at hv
  obtain ⟨_, _, rfl, ⟨e, t, l2, hj2, rfl⟩, _, _, rfl, rfl, rfl⟩ := hv
  have hj2 : some (DR.own 5 (.int .u8) l) = some (.own e t l2) := hj2
  simp only [Option.some.injEq, DR.own.injEq] at hj2
  obtain ⟨rfl, rfl, hl2⟩ := hj2
  cases hl2
  obtain ⟨us, ho, hxs⟩ := m.row 0 5 (.int .u8) l rfl
  change CallsX Tryz.prog 418 #[Value.slice (A 0).1 l.length (A 0).2, _] w _
  have hoo := ho
  obtain ⟨hxl, ho⟩ := ho
  have hxl : us.length = l.length * 1 := hxl
  obtain ⟨i0, z, hi0, hz0, hs1, hby, hzs⟩ := elemOkBy.info
  have hcs : ∃ cs : List Value, cs.length = (A 0).2 * 1 ∧ ((A 0).1 = none → (A 0).2 = 0) ∧ (∀ a, (A 0).1 = some a → ∀ j v, cs[j]? = some v → w.cell? (a.add j) = some v) ∧ cs.take (l.length * 1) = us ∧ l.length ≤ (A 0).2 ∧ (A 0).2 ≤ maxLen := by
    rcases ho with ⟨hn, hx⟩ | ⟨g, cap, cur, heq, hbase, hg, hn1, hn2, hn3, hn4⟩
    · simp only [Value.slice.injEq] at hn
      obtain ⟨e1, e2, e3⟩ := hn
      have hu0 : us = [] := List.length_eq_zero_iff.1 (by rw [hxl, e2])
      exact ⟨[], by rw [e3]; rfl, fun _ => e3, fun a _ j v h => by simp at h, by rw [hu0]; simp, by omega, by rw [e3]; exact Nat.zero_le _⟩
    · simp only [Value.slice.injEq] at heq
      obtain ⟨e1, _, e3⟩ := heq
      refine ⟨cur.toList, by rw [Array.length_toList, e3]; exact hn3, fun h => (by rw [e1] at h; cases h), fun a ha j v hv => ?_, hn4, by rw [e3]; exact hn1, by rw [e3]; exact hn2⟩
      rw [e1] at ha; simp only [Option.some.injEq] at ha; subst ha
      rw [Addr.add_lit, Nat.zero_add, cell_of_row w g j cur 5 (0, 0) hg]
      simpa using hv
  obtain ⟨cs, c1, c2, c3, c4, c5, c6⟩ := hcs
  by_cases hroom : l.length + n ≤ (A 0).2
  · refine ⟨.inl ⟨hasBody418, (Any8.slices_Grow_room Tryz.growF (A 0).1 l.length (A 0).2 n w c5 (by rw [maxLen_eq] at c6; exact c6) (by omega) hroom).mono fun e w' ⟨he, hw⟩ => ⟨_, he, ?_⟩⟩⟩
    subst hw
    exact row_call m ⟨rfl, rfl, rfl, Nat.le_refl _⟩ (fun _ _ _ => rfl) (fun x hx => .inl ⟨x, hx, rfl⟩) fun U' lt => ⟨us, hoo, DT.hs_mono lt hxs⟩
  · refine ⟨.inl ⟨hasBody418, (Any8.slices_Grow_grow Tryz.growF i0 z hi0 hz0 (by rw [hs1]; decide) (A 0).1 l.length (A 0).2 n cs w c5 (by omega) (by rw [hby]; omega) (by omega) (by rw [hs1]; exact c1) c2 c3).mono fun e w' ⟨he, hw⟩ => ⟨_, he, ?_⟩⟩⟩
    subst hw
    have hg1 := grownCap_ge w (l.length + n) (A 0).2 5
    have hg2 := grownCap_le_maxLen w (l.length + n) (A 0).2 5 (by rw [maxLen_eq]; omega)
    refine row_call m ⟨rfl, rfl, rfl, by simp⟩ (fun b hb _ => heap_push w.drew _ b hb) (fun x hx => .inr (by simp only [Option.some.injEq] at hx; subst hx; exact ⟨Nat.le_refl _, by simp⟩)) fun U' lt => ⟨us, rowK (heap_alloc_new w.drew _) ?_ (fun t u ht => ?_) hxl (Nat.le_trans (Nat.le_add_right _ _) hg1) hg2, DT.hs_mono lt hxs⟩
    · have e9 : ∀ G c m : Nat, m ≤ G → c ≤ m → c + (m - c) + (G - m) = G := fun G c m h1 h2 => by omega
      have := e9 (grownCap w (l.length + n) (A 0).2 5) (A 0).2 (l.length + n) hg1 (by omega)
      rw [Array.size_append, Array.size_append, size_zeroCells, size_zeroCells, hzs, List.size_toArray, c1, ← Nat.add_mul, ← Nat.add_mul]
      exact congrArg (· * 1) this
    · rw [World.cell?_alloc_at (w := w.drew) _ _ w.heap.size t rfl]
      have h1 : cs[t]? = some u := by
        rw [← c4, List.getElem?_take] at ht
        split at ht
        · exact ht
        · cases ht
      have h2 := (List.getElem?_eq_some_iff.1 h1).1
      rw [Array.getElem?_append_left (by rw [Array.size_append, List.size_toArray]; omega), Array.getElem?_append_left (by rw [List.size_toArray]; exact h2)]
      simpa using h1
def growb_k : KC Tryz.prog := ⟨418, fun _ => .ls ⟨[], [.row 5 (.int .u8), .v (.int .i64)], [], .own 5 (.int .u8), fun z => growb z.1 z.2.1⟩, growb_ok⟩
end Go.Proofs.YtclleaffonkegaaGreat