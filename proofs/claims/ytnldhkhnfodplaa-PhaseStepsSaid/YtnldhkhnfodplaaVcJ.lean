import Derived.Test.YtnldhkhnfodplaaVcI
namespace Go.Vc
open Go

section
variable {P : Program} {T : List TI} {o : Oper} {ts : List XV} {bx : List Box} {a : Act} {w W : World} {K : KT} {Q : Exit → Act → World → Prop} {ret : Ret} {bs : List Nat}

theorem pu_slice {t : TypeId} {x : Operand} {lo hi mx : Option Operand} (hT : TableOk P T) (ho : o.op = .slice t x lo hi mx) (h : pureK T o.op ts ret) (hr0 : Rel bs ts a.tmps.toList) : ∃ r : XV, ret r ∧ r.wf bs ∧ ∀ w, (execOp a.eval o).run P w = .ok (.value r.den) w := by
  unfold pureK at h
  simp only [ho] at h
  replace h := opK_spec h hr0
  obtain ⟨g, h, hgw, hg⟩ := h
  replace h := opO_spec h hr0
  obtain ⟨xl, h, hl⟩ := h
  replace h := opO_spec h hr0
  obtain ⟨xh, h, hh⟩ := h
  replace h := opO_spec h hr0
  obtain ⟨xm, h, hm⟩ := h
  replace h := tiK_facts hT h
  obtain ⟨ti, hf, h⟩ := h
  have hr : ∀ w, (execOp a.eval o).run P w = ((Instr.sliceAt t g.den (xl.map XV.den) (xh.map XV.den) (xm.map XV.den)).run P w).andThen fun v w' => .ok (.value v) w' := by
    intro w
    simp only [execOp, ho, Sem.run_bind, Sem.run_pure, hg, hl, hh, hm]
  have hbs : ∀ (w : World) {x : Option XV} {d bound n : Nat} (code : BoundsCode), ((x = none ∧ n = d) ∨ ∃ k i, x = some (.int k i) ∧ 0 ≤ i ∧ i ≤ bound ∧ n = i.toNat) → ∀ v, x = some v → (Instr.sliceBound v.den bound code).run P w = .ok n w := by
    rintro w x d bound n code (⟨rfl, _⟩ | ⟨k, i, rfl, h0, h1, rfl⟩) v hv
    · cases hv
    · injection hv with hv; subst hv; exact run_sliceBound w k i bound code h0 h1
  split at h
  · rename_i e aa len cap htd
    have hun := td_slice hf htd
    replace h := tiK_facts hT h
    obtain ⟨te, hfe, h⟩ := h
    split at h
    · replace h := boundK_spec h
      obtain ⟨n, h, hb⟩ := h
      refine ⟨_, h, (by simp [XV.wf]), fun w => ?_⟩
      rw [hr]
      have hb' := fun w => hbs w (x := xh) .sliceAcap hb
      rcases hb with ⟨rfl, rfl⟩ | ⟨k, i, rfl, h0, h1, rfl⟩
      · simp only [Instr.sliceAt, Instr.slice, Sem.run_bind, run_underlying hun, Result.andThen_ok, XV.den, Option.map_none, Instr.sliceBounds, Sem.run_pure, td_size hfe, Nat.zero_mul, Nat.sub_zero]
        congr 2
        cases aa <;> simp [Addr.add]
      · have := hb' w _ rfl
        simp only [XV.den] at this
        simp only [Instr.sliceAt, Instr.slice, Sem.run_bind, run_underlying hun, Result.andThen_ok, XV.den, Option.map_none, Option.map_some, Instr.sliceBounds, Sem.run_pure, if_true, this, td_size hfe, Nat.zero_mul, Nat.sub_zero]
        congr 2
        cases aa <;> simp [Addr.add]
    · rename_i xlo
      replace h := boundK_spec h
      obtain ⟨n, h, hb⟩ := h
      replace h := boundK_spec h
      obtain ⟨l, h, hbl⟩ := h
      refine ⟨_, h, (by simp [XV.wf]), fun w => ?_⟩
      rw [hr]
      have hb' := fun w => hbs w (x := xh) .sliceAcap hb
      have hl' := fun w => hbs w .sliceB hbl _ rfl
      rcases hb with ⟨rfl, rfl⟩ | ⟨k, i, rfl, h0, h1, rfl⟩
      · simp only [Instr.sliceAt, Instr.slice, Sem.run_bind, run_underlying hun, Result.andThen_ok, XV.den, Option.map_none, Option.map_some, Instr.sliceBounds, Sem.run_pure, Option.isSome_none, Bool.false_eq_true, if_false, hl', td_size hfe]
      · have := hb' w _ rfl
        simp only [XV.den] at this
        simp only [Instr.sliceAt, Instr.slice, Sem.run_bind, run_underlying hun, Result.andThen_ok, XV.den, Option.map_none, Option.map_some, Instr.sliceBounds, Sem.run_pure, Option.isSome_none, Bool.false_eq_true, if_false, if_true, this, hl', td_size hfe]
    · rename_i xhi xmx
      replace h := boundK_spec h
      obtain ⟨m, h, hbm⟩ := h
      replace h := boundK_spec h
      obtain ⟨n, h, hb⟩ := h
      refine ⟨_, h, (by simp [XV.wf]), fun w => ?_⟩
      rw [hr]
      have hm' := fun w => hbs w .slice3Acap hbm _ rfl
      have hh' := fun w => hbs w .slice3B hb _ rfl
      simp only [Instr.sliceAt, Instr.slice, Sem.run_bind, run_underlying hun, Result.andThen_ok, XV.den, Option.map_none, Option.map_some, Instr.sliceBounds, Sem.run_pure, Option.isSome_some, if_true, hm', hh', td_size hfe, Nat.zero_mul, Nat.sub_zero]
      congr 2
      cases aa <;> simp [Addr.add]
    · rename_i xlo xhi xmx
      replace h := boundK_spec h
      obtain ⟨m, h, hbm⟩ := h
      replace h := boundK_spec h
      obtain ⟨n, h, hb⟩ := h
      replace h := boundK_spec h
      obtain ⟨l, h, hbl⟩ := h
      refine ⟨_, h, (by simp [XV.wf]), fun w => ?_⟩
      rw [hr]
      have hm' := fun w => hbs w .slice3Acap hbm _ rfl
      have hh' := fun w => hbs w .slice3B hb _ rfl
      have hl' := fun w => hbs w .slice3C hbl _ rfl
      simp only [Instr.sliceAt, Instr.slice, Sem.run_bind, run_underlying hun, Result.andThen_ok, XV.den, Option.map_some, Instr.sliceBounds, Sem.run_pure, Option.isSome_some, if_true, hm', hh', hl', td_size hfe]
    · exact h.elim
  · rename_i s htd
    have hun := td_string hf htd
    split at h
    · replace h := boundK_spec h
      obtain ⟨n, h, hb⟩ := h
      replace h := boundK_spec h
      obtain ⟨l, h, hbl⟩ := h
      refine ⟨_, h, (by simp [XV.wf]), fun w => ?_⟩
      rw [hr]
      have hb' := fun w => hbs w (x := xh) .sliceAlen hb
      have hl' := fun w => hbs w (x := xl) .sliceB hbl
      rcases hb with ⟨rfl, rfl⟩ | ⟨k, i, rfl, h0, h1, rfl⟩ <;> rcases hbl with ⟨rfl, rfl⟩ | ⟨k2, i2, rfl, h2, h3, rfl⟩
      · simp [Instr.sliceAt, Instr.slice, Sem.run_bind, run_underlying hun, XV.den, Instr.sliceBounds]
      · have := hl' w _ rfl
        simp only [XV.den] at this
        simp [Instr.sliceAt, Instr.slice, Sem.run_bind, run_underlying hun, XV.den, Instr.sliceBounds, this]
      · have := hb' w _ rfl
        simp only [XV.den] at this
        simp [Instr.sliceAt, Instr.slice, Sem.run_bind, run_underlying hun, XV.den, Instr.sliceBounds, this]
      · have h4 := hb' w _ rfl
        have h5 := hl' w _ rfl
        simp only [XV.den] at h4 h5
        simp [Instr.sliceAt, Instr.slice, Sem.run_bind, run_underlying hun, XV.den, Instr.sliceBounds, h4, h5]
    · exact h.elim
  · exact h.elim

theorem mapM_places {P : Program} (w : World) : ∀ (fl : List Field), (∀ f ∈ fl, (sizeOf f.type).run P w = .ok (P.cellsOf f.type) w) →
    (fl.mapM (fun f => do pure (f.offset, ← sizeOf f.type) : Field → Sem (Nat × Nat))).run P w = .ok (fl.map fun f => (f.offset, P.cellsOf f.type)) w
  | [], _ => by simp
  | f :: fl, h => by
    have h0 := h f (by simp)
    have ih := mapM_places w fl (fun g hg => h g (by simp [hg]))
    simp only [List.mapM_cons, Sem.run_bind, h0, ih, Result.andThen_ok, Sem.run_pure, List.map_cons]

theorem pu_build {t : TypeId} {parts : Array (Nat × Operand)} (hT : TableOk P T) (ho : o.op = .build t parts) (h : pureK T o.op ts ret) (hr0 : Rel bs ts a.tmps.toList) : ∃ r : XV, ret r ∧ r.wf bs ∧ ∀ w, (execOp a.eval o).run P w = .ok (.value r.den) w := by
  unfold pureK at h
  simp only [ho] at h
  replace h := partsK_spec h hr0
  obtain ⟨ps, h, hpw, hps⟩ := h
  replace h := tiK_facts hT h
  obtain ⟨ti, hf, h⟩ := h
  have hr : ∀ w, (execOp a.eval o).run P w = ((Instr.build t (denP ps).toArray).run P w).andThen fun v w' => .ok (.value v) w' := by
    intro w
    simp only [execOp, ho, Sem.run_bind, Sem.run_pure]
    congr 3
    rw [← hps]
    apply Array.ext'
    simp
  split at h
  · rename_i fs z zs htd hz
    obtain ⟨fl, hu, rfl⟩ := td_struct hf htd
    replace h := posK_spec h
    obtain ⟨h, hpos⟩ := h
    replace h := fillK_spec (bs := bs) ps _ _ h hpw (wfL_constL _ _)
    obtain ⟨r, h, hrw, hfill⟩ := h
    refine ⟨_, h, (by simpa [XV.wf] using hrw), fun w => ?_⟩
    obtain ⟨i, hi, _, hzero⟩ := td_facts hf
    rw [hz] at hzero
    obtain ⟨zv, hzv, hzc⟩ : ∃ zv, i.zero = some zv ∧ zv.cells.toList = z :: zs := by
      cases hiz : i.zero with
      | none => rw [hiz] at hzero; cases hzero
      | some zv => rw [hiz] at hzero; exact ⟨zv, rfl, hzero.symm⟩
    rw [hr]
    have hm := mapM_places (P := P) w fl.toList (fun f hf' => by
      have := hpos _ (List.mem_map.2 ⟨f, hf', rfl⟩)
      obtain ⟨j, hj, hjs⟩ := info_of_cells f.type this
      rw [run_sizeOf' hj, hjs])
    have hm' : (fl.mapM (fun f => do pure (f.offset, ← sizeOf f.type) : Field → Sem (Nat × Nat))).run P w = .ok (fl.toList.map fun f => (f.offset, P.cellsOf f.type)).toArray w := by
      rw [Array.mapM_eq_mapM_toList]
      simp only [Sem.run_map, hm, Result.andThen_ok]
    have hc : zv.cells = (denL (constL (z :: zs))).toArray := by rw [denL_constL, ← hzc]
    simp only [Instr.build, Sem.run_bind, run_zeroValue' hi hzv, Result.andThen_ok, run_underlying hu, hm', hc]
    simp only [List.map_map] at hfill
    have e : (fun x : Nat => ((fl.toList.map fun f => (f.offset, P.cellsOf f.type)).toArray)[x]?) = (fun i : Nat => (fl.toList.map ((fun f => (f.1, f.2.2)) ∘ fun f => (f.offset, f.type, P.cellsOf f.type)))[i]?) := by
      funext i; simp; rfl
    rw [e, hfill]
    simp [XV.den]
  · exact h.elim

theorem pu_makeFunc {fn : Fn} {first caps : Array Operand} (ho : o.op = .makeFunc fn first caps) (h : pureK T o.op ts ret) (hr0 : Rel bs ts a.tmps.toList) : ∃ r : XV, ret r ∧ r.wf bs ∧ ∀ w, (execOp a.eval o).run P w = .ok (.value r.den) w := by
  unfold pureK at h
  simp only [ho] at h
  split at h
  · rename_i f hfirst
    replace h := opsK_spec h hr0
    obtain ⟨cs, h, hcw, hcs⟩ := h
    refine ⟨_, h, (by simpa [XV.wf] using hcw), fun w => ?_⟩
    have hfa : first = #[] := by
      apply Array.ext'; simpa using hfirst
    have hca : caps.map a.eval = (denL cs).toArray := by
      apply Array.ext'; simp [← hcs]
    simp [execOp, ho, Instr.makeFunc, XV.den, hfa, hca]
  · exact h.elim

theorem zero_of {t : TypeId} {ti : TI} {z : Value} {zs : List Value} (hf : TFacts P t ti) (hz : ti.zero = z :: zs) : ∃ zv, ∀ w, (zeroValue t).run P w = .ok zv w ∧ zv.cells = (z :: zs).toArray := by
  obtain ⟨i, hi, _, hzero⟩ := td_facts hf
  rw [hz] at hzero
  cases hiz : i.zero with
  | none => rw [hiz] at hzero; cases hzero
  | some zv =>
    rw [hiz] at hzero
    exact ⟨zv, fun w => ⟨run_zeroValue' hi hiz w, by apply Array.ext'; simpa using hzero.symm⟩⟩

theorem vc_alloc {t : TypeId} (hT : TableOk P T) (ho : o.op = .alloc t) (h : vcOp P T o ts bx W K) (inv : Inv ts bx a w W) : o.wp P a w (Post K) Q := by
  unfold vcOp at h
  simp only [ho] at h
  replace h := tiK_facts hT h
  obtain ⟨ti, hf, h⟩ := h
  split at h
  · rename_i z zs hz
    obtain ⟨zv, hzv⟩ := zero_of hf hz
    refine newBox_wp ?_ h inv (wfL_constL _ _)
    simp only [execOp, ho, Sem.run_bind, Instr.alloc, (hzv w).1, Result.andThen_ok, newVar, newRow, run_newObj, Sem.run_pure, (hzv w).2, denL_constL]
    rfl
  · exact h.elim

theorem vc_box {t : TypeId} {x : Operand} (ho : o.op = .box t x) (h : vcOp P T o ts bx W K) (inv : Inv ts bx a w W) : o.wp P a w (Post K) Q := by
  unfold vcOp at h
  simp only [ho] at h
  replace h := opK_spec h inv.frame
  obtain ⟨g, h, hgw, hg⟩ := h
  replace h := cellsK_spec h hgw
  obtain ⟨cs, h, hcw, hcs⟩ := h
  refine newBox_wp ?_ h inv hcw
  have : g.den.cells = (denL cs).toArray := by apply Array.ext'; simpa using hcs
  simp only [execOp, ho, Sem.run_bind, Instr.box, hg, newVar, newRow, run_newObj, Sem.run_pure, Result.andThen_ok, this]
  rfl

theorem call_resolve {c : Call} {f : Operand} {g : FuncId} {caps : Array Value} (ho : o.op = .call c) (hc : c.callee = .value f) (hf : a.eval f = .func (.func g) #[] caps) :
    (execOp a.eval o).run P w = (callFunc g (c.args.map a.eval ++ caps)).run P w := by
  simp only [execOp, ho, resolve, hc, hf, Deferred.ofValue, Sem.run_bind, Sem.run_pure, Result.andThen_ok, invoke, Array.empty_append]

theorem denL_eval {xs : List Operand} {ys : List XV} (h : xs.map a.eval = denL ys) (c : Array Operand) (hc : c.toList = xs) : c.map a.eval = (denL ys).toArray := by
  apply Array.ext'; simp [hc, h]

theorem ofConst_list (xs : List Value) : denL (injL xs) = xs := denL_injL xs

theorem pu_call {c : Call} (hT : TableOk P T) (ho : o.op = .call c) (h : pureK T o.op ts ret) (hr0 : Rel bs ts a.tmps.toList) : ∃ r : XV, ret r ∧ r.wf bs ∧ ∀ w, (execOp a.eval o).run P w = .ok (.value r.den) w := by
  unfold pureK at h
  simp only [ho] at h
  split at h
  · rename_i b hcal
    replace h := opsK_spec h hr0
    obtain ⟨xs, h, hxw, hxs⟩ := h
    have hargs := denL_eval hxs c.args rfl
    have hr : ∀ w, (execOp a.eval o).run P w = (builtin b c.argTypes o.type (c.args.map fun | .const _ => true | _ => false) (denL xs).toArray).run P w := by
      intro w
      simp only [execOp, ho, resolve, hcal, Sem.run_bind, Sem.run_pure, Result.andThen_ok, invoke, hargs]
      rfl
    unfold builtinK at h
    split at h
    · unfold argTy at h
      split at h
      · rename_i t hats
        replace h := tiK_facts hT h
        obtain ⟨ti, hf, h⟩ := h
        split at h
        · rename_i e htd
          have hun := td_slice hf htd
          refine ⟨_, h, (by simp [XV.wf]), fun w => ?_⟩
          rw [hr]
          have hat : c.argTypes = #[t] := by apply Array.ext'; simpa using hats
          simp [builtin, Builtin.len_, hat, denL, XV.den, run_underlying hun, goInt, Sem.run_bind]
        · exact h.elim
      · exact h.elim
    · unfold argTy at h
      split at h
      · rename_i t hats
        replace h := tiK_facts hT h
        obtain ⟨ti, hf, h⟩ := h
        split at h
        · rename_i htd
          have hun := td_string hf htd
          refine ⟨_, h, (by simp [XV.wf]), fun w => ?_⟩
          rw [hr]
          have hat : c.argTypes = #[t] := by apply Array.ext'; simpa using hats
          simp [builtin, Builtin.len_, hat, denL, XV.den, run_underlying hun, goInt, Sem.run_bind]
        · exact h.elim
      · exact h.elim
    · unfold argTy at h
      split at h
      · rename_i t hats
        replace h := tiK_facts hT h
        obtain ⟨ti, hf, h⟩ := h
        split at h
        · rename_i e htd
          have hun := td_slice hf htd
          refine ⟨_, h, (by simp [XV.wf]), fun w => ?_⟩
          rw [hr]
          have hat : c.argTypes = #[t] := by apply Array.ext'; simpa using hats
          simp [builtin, Builtin.cap_, hat, denL, XV.den, run_underlying hun, goInt, Sem.run_bind]
        · exact h.elim
      · exact h.elim
    · refine ⟨_, h, (by simp [XV.wf]), fun w => ?_⟩
      rw [hr]
      simp only [builtin, Sem.run_bind, denL, XV.den, run_max_int2, Result.andThen_ok, Sem.run_pure]
    · refine ⟨_, h, (by simp [XV.wf]), fun w => ?_⟩
      rw [hr]
      simp only [builtin, Sem.run_bind, denL, XV.den, run_min_int2, Result.andThen_ok, Sem.run_pure]
    · exact h.elim
  · exact h.elim

/-- PURE OPERATIONS: they come to a value whatever the world. -/
theorem pure_spec (hT : TableOk P T) (h : pureK T o.op ts ret) (hr0 : Rel bs ts a.tmps.toList) : ∃ r : XV, ret r ∧ r.wf bs ∧ ∀ w, (execOp a.eval o).run P w = .ok (.value r.den) w := by
  cases ho : o.op with
  | move x =>
    unfold pureK at h
    simp only [ho] at h
    replace h := opK_spec h hr0
    obtain ⟨g, h, hgw, hg⟩ := h
    exact ⟨_, h, hgw, fun w => by simp [execOp, ho, hg]⟩
  | assign x =>
    unfold pureK at h
    simp only [ho] at h
    replace h := opK_spec h hr0
    obtain ⟨g, h, hgw, hg⟩ := h
    exact ⟨_, h, hgw, fun w => by simp [execOp, ho, hg]⟩
  | pick c x y => exact pu_pick ho h hr0
  | nilCheck x => exact pu_nilCheck ho h hr0
  | binOp op t x y u =>
    unfold pureK at h
    simp only [ho] at h
    replace h := opK_spec h hr0
    obtain ⟨g, h, hgw, hg⟩ := h
    replace h := opK_spec h hr0
    obtain ⟨g2, h, hgw2, hg2⟩ := h
    obtain ⟨r, hr, hrw, hrun⟩ := run_binX hT h x y bs
    refine ⟨r, hr, hrw, fun w => ?_⟩
    have hrun := hrun w
    rw [← hg, ← hg2] at hrun
    simp only [execOp, ho]
    rw [Sem.run_bind, hrun]; simp
  | unOp op t x => exact pu_unOp ho h hr0
  | convert s d x => exact pu_convert hT ho h hr0
  | fieldAddr s x f => exact pu_fieldAddr hT ho h hr0
  | field s x f => exact pu_field hT ho h hr0
  | indexAddr t x ix => exact pu_indexAddr hT ho h hr0
  | extract t i => exact pu_extract ho h hr0
  | slice t x lo hi mx => exact pu_slice hT ho h hr0
  | build t ps => exact pu_build hT ho h hr0
  | makeFunc fn f c => exact pu_makeFunc ho h hr0
  | call c => exact pu_call hT ho h hr0
  | _ => unfold pureK at h; simp only [ho] at h

theorem pure_wp (hT : TableOk P T) (h : pureK T o.op ts fun x => retX o.dst x ts bx W K) (inv : Inv ts bx a w W) : o.wp P a w (Post K) Q := by
  obtain ⟨r, hr, hw, hrun⟩ := pure_spec hT h inv.frame
  exact ret_wp (hrun w) hr inv hw

theorem vc_call {c : Call} (hT : TableOk P T) (ho : o.op = .call c) (h : vcOp P T o ts bx W K) (inv : Inv ts bx a w W) : o.wp P a w (Post K) Q := by
  unfold vcOp at h
  simp only [ho] at h
  split at h
  · rename_i f hcal
    replace h := opK_spec h inv.frame
    obtain ⟨g, h, hgw, hg⟩ := h
    replace h := opsK_spec h inv.frame
    obtain ⟨xs, h, hxw, hxs⟩ := h
    have hargs := denL_eval hxs c.args rfl
    split at h
    · rename_i g caps
      rw [appL_iff] at h
      refine callK_wp ?_ h inv
      rw [call_resolve ho hcal hg, hargs]
      simp [denL_append]
    · rename_i y
      obtain ⟨g, caps, rfl, h⟩ := h
      refine callK_wp ?_ h inv
      rw [call_resolve ho hcal hg, hargs]
      have e : (denL xs).toArray ++ caps = (denL (xs ++ injL caps.toList)).toArray := by
        apply Array.ext'; simp [denL_append, denL_injL]
      rw [e]
    · exact h.elim
  · rename_i b hcal
    have hr : ∀ xs, c.args.map a.eval = (denL xs).toArray → (execOp a.eval o).run P w = (builtin b c.argTypes o.type (c.args.map fun | .const _ => true | _ => false) (denL xs).toArray).run P w := by
      intro xs hargs
      simp only [execOp, ho, resolve, hcal, Sem.run_bind, Sem.run_pure, Result.andThen_ok, invoke, hargs]
      rfl
    split at h
    · replace h := opsK_spec h inv.frame
      obtain ⟨xs, h, hxw, hxs⟩ := h
      exact runX_wp (by rw [hr xs (denL_eval hxs c.args rfl)]; simp only [builtin, Sem.run_bind, Sem.run_pure]) h inv
    · replace h := opsK_spec h inv.frame
      obtain ⟨xs, h, hxw, hxs⟩ := h
      exact runX_wp (by rw [hr xs (denL_eval hxs c.args rfl)]; simp only [builtin, Sem.run_bind, Sem.run_pure]) h inv
    · refine pure_wp hT ?_ inv
      unfold pureK
      simp only [ho, hcal]
      exact h
  · exact h.elim

theorem vc_load {t : TypeId} {x : Operand} (hT : TableOk P T) (ho : o.op = .load t x) (h : vcOp P T o ts bx W K) (inv : Inv ts bx a w W) : o.wp P a w (Post K) Q := by
  unfold vcOp at h
  simp only [ho] at h
  replace h := opK_spec h inv.frame
  obtain ⟨A, h, hAw, hA⟩ := h
  obtain ⟨r, hr, hrw, _, hrun⟩ := loadX_spec (P := P) hT h inv hAw
  refine ret_wp ?_ hr inv hrw
  rw [load_run ho, hA, hrun w rfl]; rfl

theorem vc_rest (hT : TableOk P T) (h : vcOp P T o ts bx W K) (inv : Inv ts bx a w W) : o.wp P a w (Post K) Q := by
  cases ho : o.op with
  | alloc t => exact vc_alloc hT ho h inv
  | box t x => exact vc_box ho h inv
  | load t x => exact vc_load hT ho h inv
  | store t x y => exact vc_store hT ho h inv
  | call c => exact vc_call hT ho h inv
  | buildSlice t len parts =>
    unfold vcOp at h
    simp only [ho] at h
    replace h := partsK_spec h inv.frame
    obtain ⟨ps, h, hpw, hps⟩ := h
    refine runX_wp ?_ h inv
    simp only [execOp, ho, Sem.run_bind, Sem.run_pure]
    congr 3
    rw [← hps]
    apply Array.ext'
    simp
  | makeSlice t l c =>
    unfold vcOp at h
    simp only [ho] at h
    replace h := opK_spec h inv.frame
    obtain ⟨g, h, hgw, hg⟩ := h
    replace h := opK_spec h inv.frame
    obtain ⟨g2, h, hgw2, hg2⟩ := h
    exact runX_wp (by simp only [execOp, ho, Sem.run_bind, Sem.run_pure, hg, hg2]) h inv
  | index t l c =>
    unfold vcOp at h
    simp only [ho] at h
    replace h := opK_spec h inv.frame
    obtain ⟨g, h, hgw, hg⟩ := h
    replace h := opK_spec h inv.frame
    obtain ⟨g2, h, hgw2, hg2⟩ := h
    exact runX_wp (by simp only [execOp, ho, Sem.run_bind, Sem.run_pure, hg, hg2]) h inv
  | makeMap t r =>
    unfold vcOp at h
    simp only [ho] at h
    replace h := opO_spec h inv.frame
    obtain ⟨g, h, hg⟩ := h
    exact runX_wp (by simp only [execOp, ho, Sem.run_bind, Sem.run_pure, hg]) h inv
  | lookup t l c ok =>
    unfold vcOp at h
    simp only [ho] at h
    replace h := opK_spec h inv.frame
    obtain ⟨g, h, hgw, hg⟩ := h
    replace h := opK_spec h inv.frame
    obtain ⟨g2, h, hgw2, hg2⟩ := h
    exact runX_wp (by simp only [execOp, ho, Sem.run_bind, Sem.run_pure, hg, hg2]) h inv
  | makeInterface t x =>
    unfold vcOp at h
    simp only [ho] at h
    replace h := opK_spec h inv.frame
    obtain ⟨g, h, hgw, hg⟩ := h
    exact runX_wp (by simp only [execOp, ho, Sem.run_bind, Sem.run_pure, hg]) h inv
  | range t x =>
    unfold vcOp at h
    simp only [ho] at h
    replace h := opK_spec h inv.frame
    obtain ⟨g, h, hgw, hg⟩ := h
    exact runX_wp (by simp only [execOp, ho, Sem.run_bind, Sem.run_pure, hg]) h inv
  | next x s =>
    unfold vcOp at h
    simp only [ho] at h
    replace h := opK_spec h inv.frame
    obtain ⟨g, h, hgw, hg⟩ := h
    exact runX_wp (by simp only [execOp, ho, Sem.run_bind, Sem.run_pure, hg]) h inv
  | entry x =>
    unfold vcOp at h
    simp only [ho] at h
    replace h := opK_spec h inv.frame
    obtain ⟨g, h, hgw, hg⟩ := h
    exact runX_wp (by simp only [execOp, ho, Sem.run_bind, Sem.run_pure, hg]) h inv
  | convert s d x =>
    unfold vcOp at h
    simp only [ho] at h
    replace h := opK_spec h inv.frame
    obtain ⟨g, h, hgw, hg⟩ := h
    replace h := tiK_facts hT h
    obtain ⟨ts', hs, h⟩ := h
    replace h := tiK_facts hT h
    obtain ⟨td, hd, h⟩ := h
    obtain ⟨ds, is, hds, _⟩ := hs.ex
    have hr : (execOp a.eval o).run P w = ((convert s d g.den).run P w).andThen fun v w' => .ok (.value v) w' := by
      simp only [execOp, ho, Sem.run_bind, Sem.run_pure, hg]
    split at h
    · rename_i htd
      have hu := td_int hd htd
      refine ret_wp ?_ h inv (by simp [XV.wf])
      rw [hr]
      simp [convert, Sem.run_bind, run_underlying hds, run_underlying hu, XV.den, Conv.intToInt]
    · rename_i htd
      have hu := td_string hd htd
      refine ret_wp ?_ h inv (by simp [XV.wf])
      rw [hr]
      simp only [convert, Sem.run_bind, run_underlying hds, run_underlying hu, XV.den, Result.andThen_ok]
      cases ds <;> simp
    · exact runX_wp hr h inv
  | _ => refine pure_wp hT ?_ inv; unfold vcOp at h; simp only [ho] at h; simp only [ho]; exact h
end
end Go.Vc
