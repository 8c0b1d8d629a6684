import Derived.Test.YtnldhkhnfodplaaVcE
namespace Go.Vc
open Go

section
variable {P : Program} {T : List TI} {o : Oper} {ts : List XV} {bx : List Box} {a : Act} {w W : World} {K : KT} {Q : Exit → Act → World → Prop}

theorem ret_wp {x : XV} (hrun : (execOp a.eval o).run P w = .ok (.value x.den) w) (h : retX o.dst x ts bx W K) (inv : Inv ts bx a w W) (hw : x.wf (blks bx)) : o.wp P a w (Post K) Q :=
  wp_of_value hrun (retX_spec h inv hw)

/-- a new base: the world as it is -/
theorem Inv.base (inv : Inv ts bx a w W) : Inv ts bx a w w :=
  ⟨inv.defers, inv.frame, inv.wf, inv.nodup, ⟨rfl, rfl, rfl, Nat.le_refl _, fun _ _ _ => rfl, inv.sync.own⟩⟩

theorem Inv.kept {w' : World} (inv : Inv ts bx a w W) (hk : Kept (blks bx) w w') : Inv ts bx a w' w' :=
  ⟨inv.defers, inv.frame, inv.wf, inv.nodup, ⟨rfl, rfl, rfl, Nat.le_refl _, fun _ _ _ => rfl, fun x hx => by
    rw [hk x.blk (List.mem_map.2 ⟨x, hx, rfl⟩)]; exact inv.sync.own x hx⟩⟩

theorem runX_wp {s : Sem Value} (hrun : (execOp a.eval o).run P w = (s.run P w).andThen fun v w' => .ok (.value v) w') (h : runX P s o ts bx W K) (inv : Inv ts bx a w W) : o.wp P a w (Post K) Q := by
  obtain ⟨v, w', h1, hk, h2⟩ := (h w inv.sync).ex
  rw [h1] at hrun
  refine wp_of_value hrun ?_
  have := retX_spec h2 (inv.kept hk) (wf_inject _ v)
  rwa [den_inject] at this

theorem newBox_wp {ty : TypeId} {cells : List XV} (hrun : (execOp a.eval o).run P w = .ok (.value (.pointer (some ⟨w.heap.size, 0, none⟩))) (w.alloc (.cells (denL cells).toArray ty)))
    (h : newBox o ty cells ts bx W K) (inv : Inv ts bx a w W) (hw : wfL (blks bx) cells) : o.wp P a w (Post K) Q := by
  refine wp_of_value hrun ?_
  have h1 := h w.heap.size inv.sync.size
  rw [appK_iff] at h1
  have hnew : w.heap.size ∉ blks bx := by
    intro hm
    simp only [blks, List.mem_map] at hm
    obtain ⟨x, hx, he⟩ := hm
    have := inv.sync.blk_lt hx
    omega
  have hb : blks (bx ++ [⟨w.heap.size, ty, cells⟩]) = blks bx ++ [w.heap.size] := by simp [blks]
  have inv' : Inv ts (bx ++ [⟨w.heap.size, ty, cells⟩]) a (w.alloc (.cells (denL cells).toArray ty)) W := by
    refine ⟨inv.defers, by rw [hb]; exact inv.frame.mono _, ?_, ?_, ?_⟩
    · intro x hx
      rw [hb]
      rcases List.mem_append.1 hx with hx | hx
      · exact wfL_mono _ _ _ (inv.wf x hx)
      · simp only [List.mem_singleton] at hx; subst hx; exact wfL_mono _ _ _ hw
    · rw [hb, List.nodup_append]
      refine ⟨inv.nodup, by simp, ?_⟩
      intro x hx y hy hxy
      simp only [List.mem_singleton] at hy
      subst hy; subst hxy
      exact hnew hx
    · refine ⟨inv.sync.os, inv.sync.tape, inv.sync.output, by have := inv.sync.size; simp; omega, ?_, ?_⟩
      · intro b hb1 hb2
        rw [hb] at hb2
        simp only [List.mem_append, List.mem_singleton, not_or] at hb2
        rw [RowKit.Below.heap_alloc _ _ _ (by have := inv.sync.size; omega)]
        exact inv.sync.same b hb1 hb2.1
      · intro x hx
        rcases List.mem_append.1 hx with hx | hx
        · rw [RowKit.Below.heap_alloc _ _ _ (inv.sync.blk_lt hx)]; exact inv.sync.own x hx
        · simp only [List.mem_singleton] at hx; subst hx
          show (w.heap.push _)[w.heap.size]? = _
          simp
  have := retX_spec h1 inv' (x := .own bx.length w.heap.size 0) (by simp [XV.wf, hb, blks])
  exact this

theorem getElem?_setBox (bx : List Box) (i : Nat) (cs : List XV) (j : Nat) : (setBox bx i cs)[j]? = if j = i then (bx[i]?).map (fun x => { x with cells := cs }) else bx[j]? := by
  induction bx generalizing i j with
  | nil => simp [setBox]
  | cons x bx ih =>
    cases i with
    | zero => cases j <;> simp [setBox]
    | succ i =>
      cases j with
      | zero => simp [setBox]
      | succ j => simp [setBox, ih]

theorem memN_iff (i : Nat) (ids : List Nat) : memN i ids = true ↔ i ∈ ids := by
  induction ids with
  | nil => simp [memN]
  | cons j js ih =>
    unfold memN
    split
    · rename_i h; simp [Nat.eq_of_beq_eq_true h]
    · rename_i h; simp [ih, Nat.ne_of_beq_eq_false h]

theorem mem_keptB {ids : List Nat} {y : Box} : ∀ (bx : List Box) (i j : Nat), bx[j]? = some y → i + j ∉ ids → y.blk ∈ keptB ids i bx := by
  intro bx
  induction bx with
  | nil => intro i j h; simp at h
  | cons x bx ih =>
    intro i j h hn
    unfold keptB
    cases j with
    | zero =>
      simp at h; subst h
      split
      · rename_i hm; exact absurd ((memN_iff _ _).1 hm) (by simpa using hn)
      · simp
    | succ j =>
      have := ih (i + 1) j (by simpa using h) (by rwa [show i + 1 + j = i + (j + 1) by omega])
      split
      · exact this
      · exact List.mem_cons_of_mem _ this

theorem updK_spec {w' : World} : ∀ (ids : List Nat) (bx : List Box) (K : List Box → Prop), updK ids bx w' K → ∃ bx', K bx' ∧ blks bx' = blks bx ∧
    ∀ j x', bx'[j]? = some x' → ∃ y, bx[j]? = some y ∧ y.blk = x'.blk ∧ ((j ∈ ids ∧ w'.heap[x'.blk]? = some (.cells (denL x'.cells).toArray x'.ty (0, 0)) ∧ ∀ bs, wfL bs x'.cells) ∨ (j ∉ ids ∧ x' = y))
  | [], bx, K, h => ⟨bx, h, rfl, fun j x' hx => ⟨x', hx, rfl, .inr ⟨by simp, rfl⟩⟩⟩
  | i :: is, bx, K, h => by
    obtain ⟨x, hx, h⟩ := boxK_spec h
    obtain ⟨cs, h1, h2⟩ := exV_spec h
    rw [setBoxK_iff] at h2
    obtain ⟨bx', hK, hb, hall⟩ := updK_spec is _ K h2
    refine ⟨bx', hK, by rw [hb, blks_setBox], fun j x' hj => ?_⟩
    obtain ⟨y, hy, hyb, hcase⟩ := hall j x' hj
    rw [getElem?_setBox] at hy
    split at hy
    · rename_i hji
      subst hji
      rw [hx] at hy
      simp only [Option.map_some, Option.some.injEq] at hy
      subst hy
      refine ⟨x, hx, hyb, .inl ⟨by simp, ?_⟩⟩
      rcases hcase with h3 | ⟨_, rfl⟩
      · exact h3.2
      · exact ⟨by simpa [denL_injL] using h1, fun bs => wfL_injL bs cs⟩
    · rename_i hji
      refine ⟨y, hy, hyb, ?_⟩
      rcases hcase with ⟨h3, h4⟩ | ⟨h3, h4⟩
      · exact .inl ⟨by simp [h3], h4⟩
      · exact .inr ⟨by simp [h3, hji], h4⟩

theorem callK_wp {f : FuncId} {xs : List XV} (hrun : (execOp a.eval o).run P w = (callFunc f (denL xs).toArray).run P w) (h : callK P f xs o ts bx W K) (inv : Inv ts bx a w W) : o.wp P a w (Post K) Q := by
  have hc := h w inv.sync
  obtain ⟨fn, h1, h2, h3⟩ := hc.body
  have hrun' : (callFunc f (denL xs).toArray).run P w = .ok (.enter f (denL xs).toArray) w := by
    simp only [callFunc, Sem.run_bind, run_program, Result.andThen_ok, h1, h2, h3, Bool.false_eq_true, if_false, Sem.run_pure]
  rw [hrun'] at hrun
  simp only [Oper.wp, hrun, Oper.upon]
  refine hc.calls.mono fun e w' ⟨v, he, hk, hu⟩ => ?_
  subst he
  obtain ⟨bx', hr, hb, hall⟩ := updK_spec _ _ _ hu
  have inv' : Inv ts bx' a w' w' := by
    refine ⟨inv.defers, by rw [hb]; exact inv.frame, ?_, by rw [hb]; exact inv.nodup, ⟨rfl, rfl, rfl, Nat.le_refl _, fun _ _ _ => rfl, ?_⟩⟩
    · intro x hx
      rw [hb]
      obtain ⟨j, _, hj⟩ := List.mem_iff_getElem.1 hx
      obtain ⟨y, hy, hyb, hcase⟩ := hall j x (by simp [*])
      rcases hcase with ⟨_, _, hwf⟩ | ⟨_, rfl⟩
      · exact hwf _
      · exact inv.wf _ (List.mem_of_getElem? hy)
    · intro x hx
      obtain ⟨j, _, hj⟩ := List.mem_iff_getElem.1 hx
      obtain ⟨y, hy, hyb, hcase⟩ := hall j x (by simp [*])
      rcases hcase with ⟨_, hh, _⟩ | ⟨hn, rfl⟩
      · exact hh
      · rw [hk _ (mem_keptB bx 0 j hy (by simpa using hn))]
        exact inv.sync.own _ (List.mem_of_getElem? hy)
  have := retX_spec hr inv' (wf_inject _ v)
  rwa [den_inject] at this
end
end Go.Vc
