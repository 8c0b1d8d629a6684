import Derived.Test.YtclleaffonkegaaGreatB9
import Derived.Shelf.SlSortCmp.WholeK
import Derived.Shelf.SlSortCmp.NoneTotal
import Derived.Shelf.Spec.SlicesGrow
namespace Go.Vc
open Go Go.RowKit Go.Sort Go.Proofs
/-! ### A row of one's own that the library sorts in its place -/
theorem heap_putRow {enc : Value → Value} {w : World} {g n : Nat} {os : Array Obj} {cur : Array Value} {e : TypeId} {fr : Nat × Nat} (F : Array Value) (hb : w.heap[g]? = some (.cells cur e fr)) :
    (grow (putRow id (Sort.ahead w n) g 0 F) os).heap[g]? = some (.cells (putCells id 0 F cur) e fr) := by
  have hg : g < w.heap.size := (Array.getElem?_eq_some_iff.1 hb).1
  rw [heap_grow_old _ _ (by simpa using hg)]
  simp [putRow, mapBlock, Sort.ahead, Array.getElem?_modify, hb, onCells]
theorem heap_putRow_ne {w : World} {g n : Nat} {os : Array Obj} (F : Array Value) {k : Nat} (hk : k < w.heap.size) (hne : k ≠ g) :
    (grow (putRow id (Sort.ahead w n) g 0 F) os).heap[k]? = w.heap[k]? := by
  rw [heap_grow_old _ _ (by simpa using hk)]
  have : g ≠ k := fun e => hne e.symm
  simp [putRow, mapBlock, Sort.ahead, Array.getElem?_modify, this]
theorem take_putCells' (cur F : Array Value) (h : F.size ≤ cur.size) : (putCells id 0 F cur).toList.take F.size = F.toList := by
  apply List.ext_getElem?
  intro j
  by_cases hj : j < F.size
  · rw [List.getElem?_take_of_lt hj, Array.getElem?_toList]
    simp [putCells, hj, show j < cur.size by omega]
  · rw [List.getElem?_take_eq_none (by omega), List.getElem?_eq_none (by simp; omega)]
theorem flat_at {α : Type} {enc : α → List Value} {k : Nat} (hk : ∀ x, (enc x).length = k) : ∀ (l : List α), (l.flatMap enc).length = l.length * k ∧ ∀ i x, l[i]? = some x → ((l.flatMap enc).drop (i * k)).take k = enc x
  | [] => ⟨by simp, fun i x h => by simp at h⟩
  | y :: l => by
    obtain ⟨h1, h2⟩ := flat_at hk l
    refine ⟨by rw [List.flatMap_cons, List.length_append, hk, h1, List.length_cons, Nat.succ_mul]; omega, fun i x h => ?_⟩
    rw [List.flatMap_cons]
    cases i with
    | zero => simp at h; subst h; rw [Nat.zero_mul, List.drop_zero, List.take_append_of_le_length (by rw [hk]; exact Nat.le_refl _), List.take_of_length_le (by rw [hk]; exact Nat.le_refl _)]
    | succ i =>
      rw [Nat.succ_mul, Nat.add_comm, List.drop_append, List.drop_of_length_le (by rw [hk]; omega), List.nil_append, hk, show k + i * k - k = i * k by omega]
      exact h2 i x (by simpa using h)
theorem flatK_list {α : Type} [Inhabited α] (enc : α → List Value) (k : Nat) (hk : ∀ x, (enc x).length = k) (l : List α) : (flatK enc k l.toArray).toList = l.flatMap enc := by
  obtain ⟨hl, h2⟩ := flat_at hk l
  apply List.ext_getElem?
  intro t
  rw [Array.getElem?_toList]
  by_cases ht : t < l.length * k
  · have k0 : 0 < k := by rcases Nat.eq_zero_or_pos k with h | h; · subst h; simp at ht
                          · exact h
    have hq : t / k < l.length := (Nat.div_lt_iff_lt_mul k0).2 ht
    have h1 : (flatK enc k l.toArray)[t]? = some ((enc l.toArray[t / k]!)[t % k]!) := by
      have := get_flatK enc k l.toArray t (by simpa using ht)
      rw [← this]; simp [ht]
    rw [h1]
    have h3 : l.toArray[t / k]! = l[t / k] := by simp [hq]
    rw [h3]
    have h4 : t % k < (enc l[t / k]).length := by rw [hk]; exact Nat.mod_lt _ k0
    have h5 := h2 (t / k) l[t / k] (List.getElem?_eq_getElem hq)
    have h6 : (enc l[t / k])[t % k]? = (l.flatMap enc)[t / k * k + t % k]? := by
      rw [← h5, List.getElem?_take_of_lt (Nat.mod_lt _ k0), List.getElem?_drop]
    rw [show t / k * k + t % k = t by rw [Nat.mul_comm]; exact Nat.div_add_mod t k] at h6
    rw [← h6, List.getElem?_eq_getElem h4]
    exact congrArg some (getElem!_pos (enc l[t / k]) (t % k) h4)
  · rw [List.getElem?_eq_none (by rw [hl]; omega)]
    simp; omega
theorem putSelf {e : TypeId} {t : DT} {l l' : List t.den} {U0 L : Nat → Prop} {B : Nat → Nat} {A : Asg} {w w' : World} (m : Mem w U0 L B A [] [.own e t l] w) (hll : l'.length = l.length)
    (hr : w'.os = w.os ∧ w'.tape = w.tape ∧ w'.output = w.output ∧ w.heap.size ≤ w'.heap.size) (hk : ∀ b, b < w.heap.size → (∀ ad, (A 0).1 = some ad → ad.block ≠ b) → w'.heap[b]? = w.heap[b]?)
    (hw : ∀ U', Later (Us U0 B A [] [.own e t l]) U' w w' → ∃ xs, w'.ownsRow 0 e t.size (.slice (A 0).1 l'.length (A 0).2) l'.length xs ∧ t.hs U' w' l' xs) : Mem w U0 L B A [] [.own e t l'] w' := by
  have hblk : ∀ b, blk B A [] [DR.own e t l] true 0 b ↔ ∃ ad, (A 0).1 = some ad ∧ ad.block = b := fun b => ⟨fun ⟨r, ad, _, _, h3, h4⟩ => ⟨ad, h3, h4⟩, fun ⟨ad, h3, h4⟩ => ⟨_, ad, rfl, by simp, h3, h4⟩⟩
  obtain ⟨m', _, _⟩ := m.putRow (al := fun _ => true) (j := 0) (f := noF) (rw' := [.own e t l']) (e := e) (t := t) (l := l') (a := (A 0).1) (c := (A 0).2) rfl (fun i hi => by
      cases i with
      | zero => exact absurd rfl hi
      | succ i => rfl)
    (fun i p h => by cases h) (fun _ e2 t2 l2 h => by
      simp only [List.getElem?_cons_zero, Option.some.injEq, DR.own.injEq] at h
      obtain ⟨rfl, rfl, h⟩ := h
      cases h
      exact ⟨l', rfl, hll, rfl⟩) (fun _ d h => by simp at h) hr (fun b hb hn => hk b hb fun ad h1 h2 => hn ((hblk b).2 ⟨ad, h1, h2⟩)) (fun x hx => .inl ((hblk _).2 ⟨x, hx, rfl⟩)) hw
  have e0 : upd A 0 ((A 0).1, (A 0).2) = A := upd_eta A 0
  rw [e0] at m'
  exact m'
/-- A CALL THAT SORTS A ROW OF ONE'S OWN IN ITS PLACE -/
theorem sort_mu {P : Program} {g q : FuncId} {e : TypeId} {t : DT} [Inhabited t.den] {enc : t.den → List Value} (henc : ∀ x, (enc x).length = t.size) (h1 : ∀ x, ∀ v ∈ enc x, v.oneCell' = true)
    (hh : ∀ (U : Nat → Prop) (w : World) (x : t.den) (us : List Value), t.h U w x us ↔ us = enc x)
    {srt : List t.den → Option (List t.den)} (hsl : ∀ l l', srt l = some l' → l'.length = l.length) (hf : HasBody P g) (hq : Nat.ble 1000000 q = false)
    (hnone : ∀ p cap w, Calls P g #[.slice p 0 cap, .func (.func q) #[] #[]] w fun e w' => e = .returned (.tuple #[]) ∧ w' = w)
    (hcall : ∀ blk off cap (l l' : List t.den) w, srt l = some l' → HoldsK enc t.size w blk off l.toArray → blk < w.heap.size →
      Calls P g #[.slice (some ⟨blk, off, none⟩) l.length cap, .func (.func q) #[] #[]] w fun e w' => e = .returned (.tuple #[]) ∧ ∃ n os, w' = sortWorldK enc t.size w blk off n l'.toArray os) :
    MUok P g ⟨e, t, [.fn q []], fun l _ => srt l⟩ := by
  intro l z l' hl'
  have hl' : srt l = some l' := hl'
  have hll := hsl l l' hl'
  refine ⟨hll, fun U0 B A vs w m hv => ?_⟩
  have hv : hL (env U0 B A [] [.own e t l] w) [.row 0, .fn q []] vs := hv
  simp only [hL, DV.h] at hv
  obtain ⟨_, _, rfl, ⟨e2, t2, l2, hj2, rfl⟩, _, _, rfl, ⟨cs, rfl, hcs⟩, rfl⟩ := hv
  have hj2 : some (DR.own e t l) = some (.own e2 t2 l2) := hj2
  simp only [Option.some.injEq, DR.own.injEq] at hj2
  obtain ⟨rfl, rfl, hl2⟩ := hj2
  cases hl2
  have hcs0 : cs = #[] := Array.toList_inj.1 hcs
  subst hcs0
  rw [fnV_f hq]
  obtain ⟨us, ⟨hxl, ho⟩, hxs⟩ := m.row 0 e t l rfl
  change CallsX P g #[Value.slice (A 0).1 l.length (A 0).2, _] w _
  rcases Nat.eq_zero_or_pos l.length with h0 | hp
  · have e0 : l = [] := List.eq_nil_of_length_eq_zero h0
    have e1 : l' = [] := List.eq_nil_of_length_eq_zero (by rw [hll, h0])
    subst e0 e1
    refine ⟨.inl ⟨hf, (hnone _ _ w).mono fun e' w' ⟨he, hw⟩ => ⟨_, he, rfl, ?_⟩⟩⟩
    subst hw; exact m
  · rcases ho with ⟨_, hn⟩ | ⟨b, cap, cur, heq, hbase, hg, hn1, hn2, hn3, hn4⟩
    · omega
    simp only [Value.slice.injEq] at heq
    obtain ⟨hA0, _, hc⟩ := heq
    have hgl : b < w.heap.size := (Array.getElem?_eq_some_iff.1 hg).1
    have hus : us = l.flatMap enc := by
      apply List.ext_getElem?
      intro j
      obtain ⟨f1, f2⟩ := flat_at henc l
      by_cases hj : j < l.length * t.size
      · have k0 : 0 < t.size := by rcases Nat.eq_zero_or_pos t.size with h | h; · rw [h] at hj; simp at hj
                                   · exact h
        have hq : j / t.size < l.length := (Nat.div_lt_iff_lt_mul k0).2 hj
        have g1 := (hh _ _ _ _).1 (hxs.2 (j / t.size) _ (List.getElem?_eq_getElem hq))
        have g2 := f2 (j / t.size) _ (List.getElem?_eq_getElem hq)
        have ej : j / t.size * t.size + j % t.size = j := by rw [Nat.mul_comm]; exact Nat.div_add_mod j _
        have := congrArg (fun l : List Value => l[j % t.size]?) (g1.trans g2.symm)
        simp only [List.getElem?_take_of_lt (Nat.mod_lt _ k0), List.getElem?_drop, ej] at this
        exact this
      · rw [List.getElem?_eq_none (by rw [hxl]; omega), List.getElem?_eq_none (by rw [f1]; omega)]
    have hfl := flatK_list enc t.size henc l
    have hfs : (flatK enc t.size l.toArray).size = l.length * t.size := by simp
    have hH : HoldsK enc t.size w b 0 l.toArray := by
      intro j hj
      rw [hfs] at hj
      refine ⟨?_, by simp [World.frozen?, hg]⟩
      have e1 : (cur.toList.take (l.length * t.size))[j]? = (l.flatMap enc)[j]? := by rw [hn4, hus]
      rw [List.getElem?_take_of_lt hj, ← hfl, Array.getElem?_toList, Array.getElem?_toList] at e1
      simp only [World.cell?, hg, Nat.zero_add, Option.isSome_none, Bool.false_eq_true, if_false, e1]
      rw [getElem!_pos (flatK enc t.size l.toArray) j (by rw [hfs]; exact hj), Array.getElem?_eq_getElem (by rw [hfs]; exact hj)]
      rfl
    rw [hA0, hc]
    refine ⟨.inl ⟨hf, (hcall b 0 cap l l' w hl' hH hgl).mono fun e' w' ⟨he, n, os', hw⟩ => ⟨_, he, rfl, ?_⟩⟩⟩
    subst hw
    have hgs : (flatK enc t.size l'.toArray).size = l'.length * t.size := by simp
    refine putSelf m hll ⟨rfl, rfl, rfl, by simp [sortWorldK, putRowK]⟩ (fun b' hb hn => heap_putRow_ne _ hb fun e => hn _ hA0 e.symm) fun U' lt => ⟨l'.flatMap enc, ⟨(flat_at henc l').1, .inr ⟨b, cap, _, ?_, hbase, heap_putRow (enc := id) _ hg, by rw [hll]; exact hn1, hn2, by simp [putCells, hn3], ?_⟩⟩, (flat_at henc l').1, fun i x hx => (hh _ _ _ _).2 ((flat_at henc l').2 i x hx)⟩
    · rw [hA0, hc]
    · rw [← flatK_list enc t.size henc, ← hgs]
      exact take_putCells' cur _ (by rw [hgs, hn3, hll]; exact Nat.mul_le_mul_right _ hn1)
end Go.Vc
namespace Go.Proofs.YtclleaffonkegaaGreat
open Go Go.Vc Go.RowKit Go.Sort Go.Proofs Go.Shelf
/-! ### units put in order -/
def lessU (x y : Int × Int) : Bool := if x.1 = y.1 then decide (x.2 < y.2) else decide (x.1 < y.1)
set_option maxRecDepth 100000 in
theorem less_w (x y : Int × Int) (W : World) : Calls Tryz.prog 338 #[.agg #[.int .i64 x.1, .int .i64 x.2], .agg #[.int .i64 y.1, .int .i64 y.2]] W fun e w' => e = .returned (.bool (lessU x y)) ∧ ∃ q os', w' = grow (W.drewN q) os' := by
  by_cases h : x.1 = y.1
  · have e : lessU x y = decide (x.2 < y.2) := by simp [lessU, h]
    rw [e]
    clear e
    go_enter Tryz.func338, Tryz.ntmps338
    go_wp2
    go_ret
    exact ⟨rfl, 0, _, by rw [alloc_eq_grow, alloc_eq_grow, grow_grow]; rfl⟩
  · have e : lessU x y = decide (x.1 < y.1) := by simp [lessU, h]
    rw [e]
    clear e
    go_enter Tryz.func338, Tryz.ntmps338
    go_wp2
    go_ret
    exact ⟨rfl, 0, _, by rw [alloc_eq_grow, alloc_eq_grow, grow_grow]; rfl⟩
def cmpU (x y : Int × Int) : Int := if lessU x y = true then -1 else if lessU y x = true then 1 else 0
theorem grow_drewN_grow (W : World) (q1 q2 : Nat) (o1 o2 : Array Obj) : grow ((grow (W.drewN q1) o1).drewN q2) o2 = grow (W.drewN (q1 + q2)) (o1 ++ o2) := by
  simp [grow, World.drewN, Array.append_assoc, Nat.add_assoc]
theorem alloc_drew (W : World) (o : Obj) : W.alloc o = grow (W.drewN 0) #[o] := by rw [alloc_eq_grow]; rfl
theorem cell_two0 (W : World) (a b : Array Value) (s t : TypeId) (q : Nat) (os : Array Obj) (j : Nat) : (grow (((W.alloc (.cells a s)).alloc (.cells b t)).drewN q) os).cell? ⟨W.heap.size, j, none⟩ = a[j]? := by
  have h : (grow (((W.alloc (.cells a s)).alloc (.cells b t)).drewN q) os).heap[W.heap.size]? = some (.cells a s) := by
    rw [heap_grow_old _ _ (by simp [World.drewN]; try omega)]
    show ((W.heap.push _).push _)[W.heap.size]? = _
    simp [Array.getElem?_push]
  simp [World.cell?, h]
theorem cell_two1 (W : World) (a b : Array Value) (s t : TypeId) (q : Nat) (os : Array Obj) (j : Nat) : (grow (((W.alloc (.cells a s)).alloc (.cells b t)).drewN q) os).cell? ⟨W.heap.size + 1, j, none⟩ = b[j]? := by
  have h : (grow (((W.alloc (.cells a s)).alloc (.cells b t)).drewN q) os).heap[W.heap.size + 1]? = some (.cells b t) := by
    rw [heap_grow_old _ _ (by simp [World.drewN]; try omega)]
    show ((W.heap.push _).push _)[W.heap.size + 1]? = _
    rw [Array.getElem?_push]; simp
  simp [World.cell?, h]
def G2 (W w' : World) : Prop := ∃ q os', w' = grow (W.drewN q) os'
theorem G2.c0 {W w' : World} {a b : Array Value} {s t : TypeId} (h : G2 ((W.alloc (.cells a s)).alloc (.cells b t)) w') (j : Nat) : w'.cell? ⟨W.heap.size, j, none⟩ = a[j]? := by
  obtain ⟨q, os, rfl⟩ := h; exact cell_two0 W a b s t q os j
theorem G2.c1 {W w' : World} {a b : Array Value} {s t : TypeId} (h : G2 ((W.alloc (.cells a s)).alloc (.cells b t)) w') (j : Nat) : w'.cell? ⟨W.heap.size + 1, j, none⟩ = b[j]? := by
  obtain ⟨q, os, rfl⟩ := h; exact cell_two1 W a b s t q os j
theorem G2.trans {a b c : World} (h : G2 a b) (h' : G2 b c) : G2 a c := by
  obtain ⟨q, os, rfl⟩ := h; obtain ⟨q', os', rfl⟩ := h'; exact ⟨_, _, grow_drewN_grow _ _ _ _ _⟩
theorem G2.alloc (W : World) (o : Obj) : G2 W (W.alloc o) := ⟨0, _, alloc_drew W o⟩
set_option maxRecDepth 100000 in
theorem order_w (x y : Int × Int) (W : World) : Calls Tryz.prog 514 #[.agg #[.int .i64 x.1, .int .i64 x.2], .agg #[.int .i64 y.1, .int .i64 y.2]] W fun e w' => e = .returned (.int .i64 (cmpU x y)) ∧ G2 W w' := by
  obtain ⟨x1, x2⟩ := x
  obtain ⟨y1, y2⟩ := y
  have h1 : ∀ a b c d W, Calls Tryz.prog 338 #[.agg #[.int .i64 a, .int .i64 b], .agg #[.int .i64 c, .int .i64 d]] W fun e w' => e = .returned (.bool (lessU (a, b) (c, d))) ∧ G2 W w' := fun a b c d W => less_w (a, b) (c, d) W
  have hc : cmpU (x1, x2) (y1, y2) = if lessU (x1, x2) (y1, y2) = true then -1 else if lessU (y1, y2) (x1, x2) = true then 1 else 0 := rfl
  rw [hc]; clear hc
  generalize hf : lessU = f at h1
  clear hf
  cases hp : f (x1, x2) (y1, y2) with
  | false =>
    cases hq : f (y1, y2) (x1, x2) with
    | false =>
      go_enter Tryz.func514, Tryz.ntmps514
      go_wp2_with (go_at_call 338; refine (h1 _ _ _ _ _).mono ?_; rintro e w' ⟨rfl, hw⟩; first | (have k0 := hw.c0 0; have k1 := hw.c0 1; have k2 := hw.c1 0; have k3 := hw.c1 1; have hw1 := hw) | skip)
      go_ret
      exact ⟨rfl, (((G2.alloc _ _).trans (G2.alloc _ _)).trans hw1).trans hw⟩
    | true =>
      go_enter Tryz.func514, Tryz.ntmps514
      go_wp2_with (go_at_call 338; refine (h1 _ _ _ _ _).mono ?_; rintro e w' ⟨rfl, hw⟩; first | (have k0 := hw.c0 0; have k1 := hw.c0 1; have k2 := hw.c1 0; have k3 := hw.c1 1; have hw1 := hw) | skip)
      go_ret
      exact ⟨rfl, (((G2.alloc _ _).trans (G2.alloc _ _)).trans hw1).trans hw⟩
  | true =>
    go_enter Tryz.func514, Tryz.ntmps514
    go_wp2_with (go_at_call 338; (refine (h1 _ _ _ _ _).mono ?_; rintro e w' ⟨rfl, hw⟩))
    go_ret
    exact ⟨rfl, ((G2.alloc _ _).trans (G2.alloc _ _)).trans hw⟩
def Tryz.sortU_ren : Go.Shelf.Ren := ⟨fun | 6 => 513 | 15 => 477 | 14 => 554 | 28 => 533 | 29 => 534 | 20 => 571 | 21 => 572 | 22 => 573 | 23 => 574 | 24 => 575 | 25 => 576 | 26 => 577 | 27 => 578 | 46 => 591 | 47 => 560 | 48 => 561 | 49 => 592 | 50 => 593 | 57 => 598 | n => n, fun | 22 => 271 | 24 => 71 | 25 => 580 | 3 => 3 | 39 => 283 | 0 => 0 | 53 => 497 | 55 => 213 | 4 => 4 | 46 => 593 | 45 => 592 | 50 => 344 | 5 => 5 | 9 => 9 | 66 => 620 | 70 => 624 | 76 => 642 | 77 => 643 | n => n, fun n => n⟩
theorem Tryz.sortU : SlLaysF0.n6 Tryz.prog Tryz.sortU_ren where
  mixed := by kernel_rfl
  f6 := ⟨Tryz.f513.name, by decide +kernel, Tryz.func513.trans (congrArg some (by kernel_rfl))⟩
  f14 := ⟨Tryz.f554.name, by decide +kernel, Tryz.func554.trans (congrArg some (by kernel_rfl))⟩
  f15 := Tryz.func477.trans (congrArg some (by kernel_rfl))
  f20 := ⟨Tryz.f571.name, by decide +kernel, Tryz.func571.trans (congrArg some (by kernel_rfl))⟩
  f21 := ⟨Tryz.f572.name, by decide +kernel, Tryz.func572.trans (congrArg some (by kernel_rfl))⟩
  f22 := ⟨Tryz.f573.name, by decide +kernel, Tryz.func573.trans (congrArg some (by kernel_rfl))⟩
  f23 := ⟨Tryz.f574.name, by decide +kernel, Tryz.func574.trans (congrArg some (by kernel_rfl))⟩
  f24 := ⟨Tryz.f575.name, by decide +kernel, Tryz.func575.trans (congrArg some (by kernel_rfl))⟩
  f25 := ⟨Tryz.f576.name, by decide +kernel, Tryz.func576.trans (congrArg some (by kernel_rfl))⟩
  f26 := ⟨Tryz.f577.name, by decide +kernel, Tryz.func577.trans (congrArg some (by kernel_rfl))⟩
  f27 := ⟨Tryz.f578.name, by decide +kernel, Tryz.func578.trans (congrArg some (by kernel_rfl))⟩
  f28 := Tryz.func533.trans (congrArg some (by kernel_rfl))
  f29 := Tryz.func534.trans (congrArg some (by kernel_rfl))
  f46 := ⟨Tryz.f591.name, by decide +kernel, Tryz.func591.trans (congrArg some (by kernel_rfl))⟩
  f47 := Tryz.func560.trans (congrArg some (by kernel_rfl))
  f48 := Tryz.func561.trans (congrArg some (by kernel_rfl))
  f49 := ⟨Tryz.f592.name, by decide +kernel, Tryz.func592.trans (congrArg some (by kernel_rfl))⟩
  f50 := ⟨Tryz.f593.name, by decide +kernel, Tryz.func593.trans (congrArg some (by kernel_rfl))⟩
  f57 := ⟨Tryz.f598.name, by decide +kernel, Tryz.func598.trans (congrArg some (by kernel_rfl))⟩
  t0 := Tryz.underlying0
  a0 := Tryz.isAgg0
  z0 := Tryz.sizeOf0
  v0 := Tryz.zeroValue0
  t3 := Tryz.underlying3
  a3 := Tryz.isAgg3
  z3 := Tryz.sizeOf3
  v3 := Tryz.zeroValue3
  t4 := Tryz.underlying4
  a4 := Tryz.isAgg4
  z4 := Tryz.sizeOf4
  v4 := Tryz.zeroValue4
  t5 := Tryz.underlying5
  a5 := Tryz.isAgg5
  z5 := Tryz.sizeOf5
  v5 := Tryz.zeroValue5
  t9 := Tryz.underlying9
  a9 := Tryz.isAgg9
  z9 := Tryz.sizeOf9
  v9 := Tryz.zeroValue9
  t22 := Tryz.underlying271
  a22 := Tryz.isAgg271
  z22 := Tryz.sizeOf271
  v22 := Tryz.zeroValue271
  t25 := Tryz.underlying580
  a25 := Tryz.isAgg580
  z25 := Tryz.sizeOf580
  v25 := Tryz.zeroValue580
  t39 := Tryz.underlying283
  a39 := Tryz.isAgg283
  z39 := Tryz.sizeOf283
  v39 := Tryz.zeroValue283
  t45 := Tryz.underlying592
  a45 := Tryz.isAgg592
  z45 := Tryz.sizeOf592
  v45 := Tryz.zeroValue592
  t46 := Tryz.underlying593
  a46 := Tryz.isAgg593
  z46 := Tryz.sizeOf593
  v46 := Tryz.zeroValue593
  t50 := Tryz.underlying344
  a50 := Tryz.isAgg344
  z50 := Tryz.sizeOf344
  v50 := Tryz.zeroValue344
  t53 := Tryz.underlying497
  a53 := Tryz.isAgg497
  z53 := Tryz.sizeOf497
  v53 := Tryz.zeroValue497
  t55 := Tryz.underlying213
  a55 := Tryz.isAgg213
  z55 := Tryz.sizeOf213
  v55 := Tryz.zeroValue213
  t66 := Tryz.underlying620
  a66 := Tryz.isAgg620
  z66 := Tryz.sizeOf620
  v66 := Tryz.zeroValue620
  t70 := Tryz.underlying624
  a70 := Tryz.isAgg624
  z70 := Tryz.sizeOf624
  v70 := Tryz.zeroValue624
  t76 := Tryz.underlying642
  a76 := Tryz.isAgg642
  z76 := Tryz.sizeOf642
  v76 := Tryz.zeroValue642
  t77 := Tryz.underlying643
  a77 := Tryz.isAgg643
  z77 := Tryz.sizeOf643
  v77 := Tryz.zeroValue643
theorem ltU (x y : Int × Int) : ltOf cmpU x y = lessU x y := by
  unfold ltOf cmpU
  cases h : lessU x y
  · cases lessU y x <;> simp
  · simp
theorem lessU_iff (x y : Int × Int) : lessU x y = true ↔ x.1 < y.1 ∨ (x.1 = y.1 ∧ x.2 < y.2) := by
  unfold lessU
  split
  · rename_i h; simp [h]
  · rename_i h; simp [h]
theorem lessU_f (x y : Int × Int) : lessU x y = false ↔ y.1 < x.1 ∨ (x.1 = y.1 ∧ y.2 ≤ x.2) := by
  rw [← Bool.not_eq_true, lessU_iff]; omega
theorem swoU : SWO (ltOf cmpU) where
  irrefl x := by rw [ltU, lessU_f]; omega
  trans x y z h1 h2 := by rw [ltU, lessU_iff] at *; omega
  ntrans x y z h1 h2 := by rw [ltU, lessU_f] at *; omega
theorem totU (x y : Int × Int) (h1 : ltOf cmpU x y = false) (h2 : ltOf cmpU y x = false) : x = y := by
  rw [ltU, lessU_f] at *
  exact Prod.ext (by omega) (by omega)
def cmpK (x y : KU2) : Int := cmpU (x.1, x.2.1) (y.1, y.2.1)
theorem ltK (x y : KU2) : ltOf cmpK x y = lessU (x.1, x.2.1) (y.1, y.2.1) := ltU (x.1, x.2.1) (y.1, y.2.1)
theorem swoK : SWO (ltOf cmpK) where
  irrefl x := swoU.irrefl (x.1, x.2.1)
  trans x y z h1 h2 := swoU.trans (x.1, x.2.1) (y.1, y.2.1) (z.1, z.2.1) h1 h2
  ntrans x y z h1 h2 := swoU.ntrans (x.1, x.2.1) (y.1, y.2.1) (z.1, z.2.1) h1 h2
theorem totK (x y : KU2) (h1 : ltOf cmpK x y = false) (h2 : ltOf cmpK y x = false) : x = y := by
  have := totU (x.1, x.2.1) (y.1, y.2.1) h1 h2
  simp only [Prod.mk.injEq] at this
  exact Prod.ext this.1 (Prod.ext this.2 rfl)
theorem leK_iff (x y : KU2) : leK x y = true ↔ (!(ltOf cmpK) y x) = true := by
  rw [ltK, Bool.not_eq_true', lessU_f]
  simp only [leK, Bool.or_eq_true, Bool.and_eq_true, decide_eq_true_eq, beq_iff_eq]
  omega
theorem srtK_merge (l : List KU2) : l.mergeSort (fun x y => !(ltOf cmpK) y x) = srtK l :=
  List.Perm.eq_of_pairwise (le := fun a b => (!(ltOf cmpK) b a) = true) (fun a b _ _ h1 h2 => totK a b (by simpa using h2) (by simpa using h1))
    (List.pairwise_mergeSort (fun a b c h1 h2 => (leK_iff a c).1 (leK_tr ((leK_iff a b).2 h1) ((leK_iff b c).2 h2))) (fun a b => by
      rw [Bool.or_eq_true, ← leK_iff, ← leK_iff]
      cases h : leK a b with
      | true => exact .inl rfl
      | false => exact .inr (leK_tot h)) l) ((srtK_srt l).imp fun h => (leK_iff _ _).1 h) ((List.mergeSort_perm l _).trans (srtK_perm l).symm)
def encK (x : KU2) : List Value := [.int .i64 x.1, .int .i64 x.2.1]
theorem encK1 (x : KU2) : ∀ v ∈ encK x, v.oneCell' = true := by
  intro v hv; simp [encK] at hv; rcases hv with rfl | rfl <;> rfl
theorem orderK_w (x y : KU2) (W : World) : Calls Tryz.prog 514 #[.agg (encK x).toArray, .agg (encK y).toArray] W fun e w' => e = .returned (.int .i64 (cmpK x y)) ∧ G2 W w' := order_w (x.1, x.2.1) (y.1, y.2.1) W
theorem call162 (blk off cap : Nat) (d : Array KU2) (w : World) (hH : HoldsK encK 2 w blk off d) (hblk : blk < w.heap.size) (hsz : d.size < 4611686018427387904) :
    Calls Tryz.prog 513 #[.slice (some ⟨blk, off, none⟩) d.size cap, .func (.func 514) #[] #[]] w fun e w' => e = .returned (.tuple #[]) ∧ ∃ n os, w' = sortWorldK encK 2 w blk off n (srtK d.toList).toArray os := by
  rw [← srtK_merge]
  exact AnyQ.slices_SortFunc_total Tryz.sortU 2 (fun w => by kernel_rfl) (fun w => by kernel_rfl) encK (fun _ => rfl) encK1 cmpK swoK 514 #[] blk off cap d w (enters_of Tryz.func514 (by kernel_rfl) rfl) (fun _ _ _ _ x y => orderK_w x y _) hH hblk hsz totK
theorem unitsort_s {l l' : List KU2} (h : unitsort l = some l') : l.length < 4611686018427387904 ∧ l' = srtK l := by
  unfold unitsort at h
  rcases bif_s h with ⟨h1, h2⟩ | ⟨_, h2⟩
  · exact ⟨Nat.le_of_ble_eq_true h1, (Option.some.inj h2).symm⟩
  · cases h2
def unitsort_k : KC Tryz.prog := ⟨513, fun _ => .mu ⟨71, tU0, [.fn 514 []], fun l _ => unitsort l⟩, sort_mu (enc := encK) (fun _ => rfl) encK1 (fun U w x us => by
    simp only [DT.h]
    constructor
    · rintro ⟨us1, us2, rfl, rfl, us3, us4, rfl, rfl, rfl⟩; rfl
    · rintro rfl; exact ⟨_, _, rfl, rfl, _, _, rfl, rfl, rfl⟩) (fun l l' h => by rw [(unitsort_s h).2]; exact (srtK_perm l).length_eq) ⟨_, Tryz.func513, by decide +kernel, rfl⟩ (by decide +kernel)
    (fun p cap w => AnyF.slices_SortFunc_none Tryz.sortU p cap _ w)
    (fun blk off cap l l' w h hH hb => by
      obtain ⟨h1, rfl⟩ := unitsort_s h
      have := call162 blk off cap l.toArray w hH hb (by simpa using h1)
      simp only [List.size_toArray] at this
      exact this)⟩
end Go.Proofs.YtclleaffonkegaaGreat
namespace Go.Proofs.YtclleaffonkegaaGreat
open Go Go.Vc Go.RowKit Go.Shelf
def Tryz.growFl_ren : Go.Shelf.Ren := ⟨fun | 4 => 512 | n => n, fun | 22 => 34 | 25 => 161 | 3 => 3 | 4 => 4 | 9 => 9 | 20 => 20 | 0 => 0 | n => n, fun n => n⟩
theorem Tryz.growFl : Lays8.n4 Tryz.prog Tryz.growFl_ren where
  mixed := by kernel_rfl
  f4 := ⟨Tryz.f512.name, by decide +kernel, Tryz.func512.trans (congrArg some (by kernel_rfl))⟩
  t0 := Tryz.underlying0
  a0 := Tryz.isAgg0
  z0 := Tryz.sizeOf0
  v0 := Tryz.zeroValue0
  t3 := Tryz.underlying3
  a3 := Tryz.isAgg3
  z3 := Tryz.sizeOf3
  v3 := Tryz.zeroValue3
  t4 := Tryz.underlying4
  a4 := Tryz.isAgg4
  z4 := Tryz.sizeOf4
  v4 := Tryz.zeroValue4
  t9 := Tryz.underlying9
  a9 := Tryz.isAgg9
  z9 := Tryz.sizeOf9
  v9 := Tryz.zeroValue9
  t20 := Tryz.underlying20
  a20 := Tryz.isAgg20
  z20 := Tryz.sizeOf20
  v20 := Tryz.zeroValue20
  t22 := Tryz.underlying34
  a22 := Tryz.isAgg34
  z22 := Tryz.sizeOf34
  v22 := Tryz.zeroValue34
end Go.Proofs.YtclleaffonkegaaGreat
namespace Go.Proofs.YtclleaffonkegaaGreat
open Go Go.Vc Go.RowKit Go.Lib Go.Shelf
/-! ### slices.Grow of flows -/
theorem growO_s {l : List F0'} {n : Int} {o : List F0' × Unit} (h : growO l n = some o) : ∃ k : Nat, n = k ∧ (l.length + k) * 24 ≤ 140737488355328 ∧ o = (l, ()) := by
  unfold growO at h
  rcases bif_s h with ⟨hc, h⟩ | ⟨_, h⟩
  · simp only [Bool.and_eq_true, decide_eq_true_eq] at hc
    have h9 := Option.some.inj h
    obtain ⟨k, rfl⟩ := Int.eq_ofNat_of_zero_le hc.1
    exact ⟨k, rfl, by omega, h9.symm⟩
  · cases h
theorem elemOkFl : ElemOk Tryz.prog 34 161 3 24 := elemOk_of (by kernel_rfl) (by kernel_rfl) (by decide)
theorem hasBody512 : HasBody Tryz.prog 512 := ⟨_, Tryz.func512, by decide +kernel, rfl⟩
theorem grow_ok : LSok Tryz.prog 512 ⟨[], [.row 161 tF0, .v (.int .i64)], [], .own 161 tF0, fun z => growO z.1 z.2.1⟩ := by
  rintro ⟨l, n, ⟨⟩⟩ o ho U0 B A vs w m hv
  obtain ⟨n, rfl, hbig, rfl⟩ := growO_s (show growO l n = some o from ho)
  have hv : hL (env U0 B A [] [.own 161 tF0 l] w) [.row 0, .int .i64 n] vs := hv
  have m : Mem w U0 (Ow B A [] [.own 161 tF0 l]) B A [] [.own 161 tF0 l] w := m
  show CallsX Tryz.prog 512 vs.toArray w fun v w' => ∃ B' A' r pb' rw', Mem w U0 (Ow B A [] [.own 161 tF0 l]) B' A' pb' rw' w' ∧ r.h (env U0 B' A' pb' rw' w') v ∧ (∀ i, live [] i → live pb' i ∧ B' i = B i) ∧ pb' = [] ∧ (r, rw') = (DV.row 0, [DR.own 161 tF0 l])
  simp only [hL, DV.h] at hv
  obtain ⟨_, _, rfl, ⟨e, t, l2, hj2, rfl⟩, _, _, rfl, rfl, rfl⟩ := hv
  have hj2 : some (DR.own 161 tF0 l) = some (.own e t l2) := hj2
  simp only [Option.some.injEq, DR.own.injEq] at hj2
  obtain ⟨rfl, rfl, hl2⟩ := hj2
  cases hl2
  obtain ⟨us, ho, hxs⟩ := m.row 0 161 tF0 l rfl
  change CallsX Tryz.prog 512 #[Value.slice (A 0).1 l.length (A 0).2, _] w _
  have hoo := ho
  obtain ⟨hxl, ho⟩ := ho
  have hxl : us.length = l.length * 3 := hxl
  obtain ⟨i0, z, hi0, hz0, hs1, hby, hzs⟩ := elemOkFl.info
  have hcs : ∃ cs : List Value, cs.length = (A 0).2 * 3 ∧ ((A 0).1 = none → (A 0).2 = 0) ∧ (∀ a, (A 0).1 = some a → ∀ j v, cs[j]? = some v → w.cell? (a.add j) = some v) ∧ cs.take (l.length * 3) = us ∧ l.length ≤ (A 0).2 ∧ (A 0).2 ≤ maxLen := by
    rcases ho with ⟨hn, hx⟩ | ⟨g, cap, cur, heq, hbase, hg, hn1, hn2, hn3, hn4⟩
    · simp only [Value.slice.injEq] at hn
      obtain ⟨e1, e2, e3⟩ := hn
      have hu0 : us = [] := List.length_eq_zero_iff.1 (by rw [hxl, e2])
      exact ⟨[], by rw [e3]; rfl, fun _ => e3, fun a _ j v h => by simp at h, by rw [hu0]; simp, by omega, by rw [e3]; exact Nat.zero_le _⟩
    · simp only [Value.slice.injEq] at heq
      obtain ⟨e1, _, e3⟩ := heq
      refine ⟨cur.toList, by rw [Array.length_toList, e3]; exact hn3, fun h => (by rw [e1] at h; cases h), fun a ha j v hv => ?_, hn4, by rw [e3]; exact hn1, by rw [e3]; exact hn2⟩
      rw [e1] at ha; simp only [Option.some.injEq] at ha; subst ha
      rw [Addr.add_lit, Nat.zero_add, cell_of_row w g j cur 161 (0, 0) hg]
      simpa using hv
  obtain ⟨cs, c1, c2, c3, c4, c5, c6⟩ := hcs
  by_cases hroom : l.length + n ≤ (A 0).2
  · refine ⟨.inl ⟨hasBody512, (Any8.slices_Grow_room Tryz.growFl (A 0).1 l.length (A 0).2 n w c5 (by rw [maxLen_eq] at c6; exact c6) (by omega) hroom).mono fun e w' ⟨he, hw⟩ => ⟨_, he, ?_⟩⟩⟩
    subst hw
    exact row_call m ⟨rfl, rfl, rfl, Nat.le_refl _⟩ (fun _ _ _ => rfl) (fun x hx => .inl ⟨x, hx, rfl⟩) fun U' lt => ⟨us, hoo, DT.hs_mono lt hxs⟩
  · refine ⟨.inl ⟨hasBody512, (Any8.slices_Grow_grow Tryz.growFl i0 z hi0 hz0 (by rw [hs1]; decide) (A 0).1 l.length (A 0).2 n cs w c5 (by omega) (by rw [hby]; omega) (by omega) (by rw [hs1]; exact c1) c2 c3).mono fun e w' ⟨he, hw⟩ => ⟨_, he, ?_⟩⟩⟩
    subst hw
    have hg1 := grownCap_ge w (l.length + n) (A 0).2 161
    have hg2 := grownCap_le_maxLen w (l.length + n) (A 0).2 161 (by rw [maxLen_eq]; omega)
    refine row_call m ⟨rfl, rfl, rfl, by simp⟩ (fun b hb _ => heap_push w.drew _ b hb) (fun x hx => .inr (by simp only [Option.some.injEq] at hx; subst hx; exact ⟨Nat.le_refl _, by simp⟩)) fun U' lt => ⟨us, rowK (heap_alloc_new w.drew _) ?_ (fun t u ht => ?_) hxl (Nat.le_trans (Nat.le_add_right _ _) hg1) hg2, DT.hs_mono lt hxs⟩
    · have e9 : ∀ G c m : Nat, m ≤ G → c ≤ m → c + (m - c) + (G - m) = G := fun G c m h1 h2 => by omega
      have := e9 (grownCap w (l.length + n) (A 0).2 161) (A 0).2 (l.length + n) hg1 (by omega)
      rw [Array.size_append, Array.size_append, size_zeroCells, size_zeroCells, hzs, List.size_toArray, c1, ← Nat.add_mul, ← Nat.add_mul]
      exact congrArg (· * 3) this
    · rw [World.cell?_alloc_at (w := w.drew) _ _ w.heap.size t rfl]
      have h1 : cs[t]? = some u := by
        rw [← c4, List.getElem?_take] at ht
        split at ht
        · exact ht
        · cases ht
      have h2 := (List.getElem?_eq_some_iff.1 h1).1
      rw [Array.getElem?_append_left (by rw [Array.size_append, List.size_toArray]; omega), Array.getElem?_append_left (by rw [List.size_toArray]; exact h2)]
      simpa using h1
def grow_k : KC Tryz.prog := ⟨512, fun _ => .ls ⟨[], [.row 161 tF0, .v (.int .i64)], [], .own 161 tF0, fun z => growO z.1 z.2.1⟩, grow_ok⟩
end Go.Proofs.YtclleaffonkegaaGreat