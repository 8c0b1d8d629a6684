import Derived.Test.YtnldhkhnfodplaaVcF
namespace Go.Vc
open Go

section
variable {P : Program} {T : List TI} {o : Oper} {ts : List XV} {bx : List Box} {a : Act} {w W : World} {K : KT} {Q : Exit → Act → World → Prop}

theorem part1 {xs : List XV} {i : Nat} {K : List XV → Prop} {x : XV} (h : [x] = (xs.drop i).take 1) : xs[i]? = some x := by
  have := congrArg (fun l : List XV => l[0]?) h
  simpa [List.getElem?_take, List.getElem?_drop] using this.symm

theorem td_facts {t : TypeId} {ti : TI} (hf : TFacts P t ti) : ∃ i, P.info? t = some i ∧ ti.size = i.size ∧ ti.zero = (match i.zero with | some z => z.cells.toList | none => []) := by
  obtain ⟨d, i, hd, hi, h1, h2, h3, h4, h5, h6⟩ := hf.ex
  exact ⟨i, hi, h2, h5⟩
theorem td_agg {t : TypeId} {ti : TI} (hf : TFacts P t ti) (w : World) : (isAgg t).run P w = .ok ti.agg w := by
  obtain ⟨d, i, hd, hi, h1, h2, h3, h4, h5, h6⟩ := hf.ex
  rw [run_isAgg' hd, h4]
theorem td_size {t : TypeId} {ti : TI} (hf : TFacts P t ti) (w : World) : (sizeOf t).run P w = .ok ti.size w := by
  obtain ⟨i, hi, h2, _⟩ := td_facts hf
  rw [run_sizeOf' hi, h2]

/-- a load of what the executor knows -/
theorem run_load_own {t : TypeId} {ti : TI} (hf : TFacts P t ti) {b off : Nat} {xs : List Value} {ty : TypeId} {w : World} (hb : w.heap[b]? = some (.cells xs.toArray ty (0, 0))) :
    (ti.agg = true → off + ti.size ≤ xs.length → (Instr.loadAt t (.pointer (some ⟨b, off, none⟩))).run P w = .ok (.agg ((xs.drop off).take ti.size).toArray) w) ∧
    (ti.agg = false → ∀ v, xs[off]? = some v → (Instr.loadAt t (.pointer (some ⟨b, off, none⟩))).run P w = .ok v w) := by
  constructor
  · intro hg hsz
    have hlen : ((xs.drop off).take ti.size).length = ti.size := by simp; omega
    have := run_loadCells_list (P := P) w ⟨b, off, none⟩ ((xs.drop off).take ti.size) (fun j v hv => by
      rw [add_own, cell_of_block hb]
      rw [List.getElem?_take] at hv
      split at hv
      · simpa [List.getElem?_drop] using hv
      · cases hv)
    rw [hlen] at this
    simp [Instr.loadAt, Instr.sureAddr, loadVar, Sem.run_bind, td_agg hf, hg, td_size hf, this]
  · intro hg v hv
    have : w.cell? ⟨b, off, none⟩ = some v := by rw [cell_of_block hb, hv]
    simp [Instr.loadAt, Instr.sureAddr, loadVar, Sem.run_bind, td_agg hf, hg, run_load, this]

theorem load_run {t : TypeId} {x : Operand} (ho : o.op = .load t x) : (execOp a.eval o).run P w = ((Instr.loadAt t (a.eval x)).run P w).andThen fun v w' => .ok (.value v) w' := by
  simp only [execOp, ho, Sem.run_bind, Sem.run_pure]

def loadBlk : XV → Nat
  | .own _ b _ => b
  | .ptr ad => ad.block
  | _ => 0

theorem loadX_spec {t : TypeId} {A : XV} {ret : XV → Prop} (hT : TableOk P T) (h : loadX T t A bx W ret) (inv : Inv ts bx a w W) (hA : A.wf (blks bx)) :
    ∃ r : XV, ret r ∧ r.wf (blks bx) ∧ ((∃ i b off, A = .own i b off) ∨ (∃ ad, A = .ptr ad ∧ ad.block ∉ blks bx ∧ ad.block < W.heap.size)) ∧
      ∀ w' : World, w'.heap[loadBlk A]? = w.heap[loadBlk A]? → (Instr.loadAt t A.den).run P w' = .ok r.den w' := by
  unfold loadX at h
  replace h := tiK_facts hT h
  obtain ⟨ti, hf, h⟩ := h
  split at h
  · rename_i i b off
    replace h := boxK_spec h
    obtain ⟨z, hz, h⟩ := h
    have hzb : z.blk = b := by
      simp only [XV.wf, blks, List.getElem?_map, hz, Option.map_some, Option.some.injEq] at hA
      exact hA
    have hown := inv.sync.own z (List.mem_of_getElem? hz)
    rw [hzb] at hown
    have hwz := inv.wf z (List.mem_of_getElem? hz)
    split at h
    · rename_i hg
      replace h := subK_spec _ _ _ _ h
      obtain ⟨h1, h2⟩ := h
      refine ⟨_, h1, by simpa [XV.wf] using wfL_sub hwz off ti.size, .inl ⟨_, _, _, rfl⟩, fun w' hw' => ?_⟩
      simp only [loadBlk] at hw'
      rw [hown] at hw'
      have hl := (run_load_own (P := P) (off := off) hf hw').1 hg (by rw [denL_length]; exact h2)
      simpa [XV.den, denL_sub] using hl
    · rename_i hg
      replace h := subK_spec _ _ _ _ h
      obtain ⟨h1, h2⟩ := h
      split at h1
      · rename_i v hv
        have hv' : z.cells[off]? = some v := part1 (K := fun _ => True) (by rw [hv])
        refine ⟨_, h1, (wfL_iff _ _).1 hwz v (List.mem_of_getElem? hv'), .inl ⟨_, _, _, rfl⟩, fun w' hw' => ?_⟩
        simp only [loadBlk] at hw'
        rw [hown] at hw'
        exact (run_load_own (P := P) (off := off) hf hw').2 hg v.den (by rw [denL_map]; simp [hv'])
      · exact h1.elim
  · rename_i ad
    split at h
    · rename_i hg
      obtain ⟨cs, h1, h0, h2, h3, h4⟩ := h
      rw [notBox_iff] at h3
      have hlt : ad.block < W.heap.size := by
        cases cs with
        | nil => exact absurd rfl h0
        | cons c cs => have := World.block_lt_of_cell? W (ad.add 0) h2.1; rwa [add_block] at this
      refine ⟨_, h4, by simpa [XV.wf] using wfL_injL _ cs, .inr ⟨ad, rfl, h3, hlt⟩, fun w' hw' => ?_⟩
      simp only [loadBlk] at hw'
      have hc : ∀ j v, cs[j]? = some v → w'.cell? (ad.add j) = some v := fun j v hv => by
        have h5 := inv.sync.cell (by have := cellsAt_get cs 0 h2 j v hv; rwa [Nat.zero_add] at this) (by rw [add_block]; exact h3)
        rw [← h5]
        exact World.cell?_of_block (by rw [add_block]; exact hw')
      have := run_loadCells_list (P := P) w' ad cs hc
      rw [h1] at this
      simp [XV.den, Instr.loadAt, Instr.sureAddr, loadVar, Sem.run_bind, td_agg hf, hg, td_size hf, this, denL_injL]
    · rename_i hg
      obtain ⟨c, h1, h2, h3⟩ := h
      rw [notBox_iff] at h2
      refine ⟨_, h3, wf_inj0 _ c, .inr ⟨ad, rfl, h2, World.block_lt_of_cell? W ad h1⟩, fun w' hw' => ?_⟩
      simp only [loadBlk] at hw'
      have h5 : w'.cell? ad = some c := by
        rw [← inv.sync.cell h1 h2]
        exact World.cell?_of_block hw'
      simp [XV.den, Instr.loadAt, Instr.sureAddr, loadVar, Sem.run_bind, td_agg hf, hg, run_load, h5, den_inj0]
  · exact h.elim

theorem store_run {t : TypeId} {x y : Operand} (ho : o.op = .store t x y) : (execOp a.eval o).run P w = ((Instr.storeAt t (a.eval x) (a.eval y)).run P w).andThen fun _ w' => .ok .skip w' := by
  simp only [execOp, ho, Sem.run_bind, Sem.run_pure]

theorem vc_store {t : TypeId} {x y : Operand} (hT : TableOk P T) (ho : o.op = .store t x y) (h : vcOp P T o ts bx W K) (inv : Inv ts bx a w W) : o.wp P a w (Post K) Q := by
  unfold vcOp at h
  simp only [ho] at h
  replace h := opK_spec h inv.frame
  obtain ⟨p, h, hpw, hp⟩ := h
  replace h := opK_spec h inv.frame
  obtain ⟨v, h, hvw, hv⟩ := h
  replace h := tiK_facts hT h
  obtain ⟨ti, hf, h⟩ := h
  replace h := cellsK_spec h hvw
  obtain ⟨cs, h, hcw, hcs⟩ := h
  replace h := lenK_spec h
  obtain ⟨hlen, h⟩ := h
  replace h := oneK_spec h
  obtain ⟨h, hone⟩ := h
  have hr := store_run (P := P) (w := w) (a := a) ho
  rw [hp, hv] at hr
  have hsz : v.den.cells.size = ti.size := by rw [← Array.length_toList, hcs, denL_length, hlen]
  split at h
  · rename_i i b off
    replace h := boxK_spec h
    obtain ⟨z, hz, h⟩ := h
    replace h := subK_spec _ _ _ _ h
    obtain ⟨h, hle⟩ := h
    rw [wrK_iff, setBoxK_iff] at h
    have hzb : z.blk = b := by
      simp only [XV.wf, blks, List.getElem?_map, hz, Option.map_some, Option.some.injEq] at hpw
      exact hpw
    have hzm := List.mem_of_getElem? hz
    have hown := inv.sync.own z hzm
    rw [hzb] at hown
    have hwz := inv.wf z hzm
    have hst := run_storeCells (P := P) ⟨b, off, none⟩ (denL cs) 0 w hone (fun j hj => by
      rw [Nat.zero_add, add_own, cell_of_block hown, frozen_of_block hown]
      refine ⟨?_, rfl⟩
      rw [denL_length] at hj
      have : off + j < (denL z.cells).length := by rw [denL_length]; omega
      simp [this])
    refine wp_of_skip (w' := setCells w ⟨b, off, none⟩ 0 (denL cs)) ?_ ?_
    · rw [hr]
      simp only [XV.den, Instr.storeAt, Instr.sureAddr, storeVar, Sem.run_bind, Sem.run_pure, Result.andThen_ok, td_size hf, hsz, ne_eq, not_true_eq_false, if_false, hcs, hst]
    · have hb : blks (setBox bx i (wr z.cells off cs)) = blks bx := blks_setBox _ _ _
      have inv' : Inv ts (setBox bx i (wr z.cells off cs)) a (setCells w ⟨b, off, none⟩ 0 (denL cs)) W := by
        have hrest := setCells_rest ⟨b, off, none⟩ (denL cs) 0 w
        refine ⟨inv.defers, by rw [hb]; exact inv.frame, ?_, by rw [hb]; exact inv.nodup, ⟨by rw [hrest.1]; exact inv.sync.os, by rw [hrest.2.1]; exact inv.sync.tape, by rw [hrest.2.2.1]; exact inv.sync.output, by rw [hrest.2.2.2.1]; exact inv.sync.size, ?_, ?_⟩⟩
        · intro u hu
          rw [hb]
          rcases mem_setBox hu with ⟨u', hu', rfl⟩ | ⟨hu', _⟩
          · exact wfL_wr off hwz hcw
          · exact inv.wf u hu'
        · intro c hc hcn
          rw [hb] at hcn
          rw [setCells_ne _ _ (by intro he; exact hcn (by rw [he, ← hzb]; exact List.mem_map.2 ⟨z, hzm, rfl⟩))]
          exact inv.sync.same c hc hcn
        · intro u hu
          rcases mem_setBox hu with ⟨u', hu', rfl⟩ | ⟨hu', j, hj, hju⟩
          · rw [hz] at hu'
            injection hu' with hu'
            subst hu'
            have := setCells_eq b off (denL cs) 0 w _ hown
            rw [Nat.add_zero] at this
            simp only [hzb, denL_wr]
            exact this
          · have hne := blk_ne inv.nodup hz hju hj
            rw [setCells_ne _ _ (by rw [← hzb]; exact hne)]
            exact inv.sync.own u hu'
      exact retX_spec h inv' (x := .und) (by simp [XV.wf])
  · rename_i ad
    obtain ⟨h1, h2, h3⟩ := h
    rw [notBox_iff] at h2
    have hst := run_storeCells (P := P) ad (denL cs) 0 w hone (fun j hj => by
      rw [denL_length] at hj
      obtain ⟨h4, h5⟩ := h1 j hj
      obtain ⟨u, hu⟩ := Option.isSome_iff_exists.1 h4
      rw [Nat.zero_add]
      have hnb : (ad.add j).block ∉ blks bx := by rw [add_block]; exact h2
      exact ⟨by rw [inv.sync.cell hu hnb]; rfl, by rw [inv.sync.frozen hu hnb]; exact h5⟩)
    refine wp_of_skip (w' := setCells w ad 0 (denL cs)) ?_ ?_
    · rw [hr]
      simp only [XV.den, Instr.storeAt, Instr.sureAddr, storeVar, Sem.run_bind, Sem.run_pure, Result.andThen_ok, td_size hf, hsz, ne_eq, not_true_eq_false, if_false, hcs, hst]
    · have hrest := setCells_rest ad (denL cs) 0 w
      have hrestW := setCells_rest ad (denL cs) 0 W
      have inv' : Inv ts bx a (setCells w ad 0 (denL cs)) (setCells W ad 0 (denL cs)) := by
        refine ⟨inv.defers, inv.frame, inv.wf, inv.nodup, ⟨by rw [hrest.1, hrestW.1]; exact inv.sync.os, by rw [hrest.2.1, hrestW.2.1]; exact inv.sync.tape, by rw [hrest.2.2.1, hrestW.2.2.1]; exact inv.sync.output, by rw [hrest.2.2.2.1, hrestW.2.2.2.1]; exact inv.sync.size, ?_, ?_⟩⟩
        · intro c hc hcn
          rw [hrestW.2.2.2.1] at hc
          by_cases hca : c = ad.block
          · subst hca
            have hsame := inv.sync.same _ hc hcn
            have : ∀ (vs : List Value) (i : Nat) (w1 w2 : World), w1.heap[ad.block]? = w2.heap[ad.block]? → (setCells w1 ad i vs).heap[ad.block]? = (setCells w2 ad i vs).heap[ad.block]? := by
              intro vs
              induction vs with
              | nil => intro i w1 w2 h; exact h
              | cons v vs ih =>
                intro i w1 w2 h
                simp only [setCells]
                refine ih _ _ _ ?_
                simp only [World.setCell, add_block, Array.getElem?_modify, if_true]
                rw [h]
            exact this _ _ _ _ hsame
          · rw [setCells_ne _ _ hca, setCells_ne _ _ hca]
            exact inv.sync.same c hc hcn
        · intro u hu
          rw [setCells_ne _ _ (by intro he; exact h2 (by rw [← he]; exact List.mem_map.2 ⟨u, hu, rfl⟩))]
          exact inv.sync.own u hu
      exact retX_spec h3 inv' (x := .und) (by simp [XV.wf])
  · exact h.elim
end
end Go.Vc
