import Derived.Test.YtnldhkhnfodplaaVcH
namespace Go.Vc
open Go

section
variable {P : Program} {T : List TI} {o : Oper} {ts : List XV} {bx : List Box} {a : Act} {w W : World} {K : KT} {Q : Exit → Act → World → Prop} {ret : Ret} {bs : List Nat}

theorem pu_pick {c x y : Operand} (ho : o.op = .pick c x y) (h : pureK T o.op ts ret) (hr0 : Rel bs ts a.tmps.toList) : ∃ r : XV, ret r ∧ r.wf bs ∧ ∀ w, (execOp a.eval o).run P w = .ok (.value r.den) w := by
  unfold pureK at h
  simp only [ho] at h
  replace h := opK_spec h hr0
  obtain ⟨g, h, hgw, hg⟩ := h
  have hr : ∀ w, (execOp a.eval o).run P w = ((asBool g.den).run P w).andThen fun b w' => .ok (.value (if b then a.eval x else a.eval y)) w' := by
    intro w
    simp only [execOp, ho, Sem.run_bind, Sem.run_pure, hg]
  split at h
  · replace h := opK_spec h hr0
    obtain ⟨z, h, hzw, hz⟩ := h
    exact ⟨_, h, hzw, fun w => by rw [hr]; simp [asBool, XV.den, hz]⟩
  · replace h := opK_spec h hr0
    obtain ⟨z, h, hzw, hz⟩ := h
    exact ⟨_, h, hzw, fun w => by rw [hr]; simp [asBool, XV.den, hz]⟩
  · replace h := opK_spec h hr0
    obtain ⟨z, h, hzw, hz⟩ := h
    replace h := opK_spec h hr0
    obtain ⟨u, h, huw, hu⟩ := h
    replace h := pickK_spec h
    obtain ⟨r, h, hrw, hrd⟩ := h
    exact ⟨_, h, (hrw _), fun w => by rw [hr]; simp [asBool, XV.den, hz, hu, hrd]⟩
  · exact h.elim

theorem pu_nilCheck {x : Operand} (ho : o.op = .nilCheck x) (h : pureK T o.op ts ret) (hr0 : Rel bs ts a.tmps.toList) : ∃ r : XV, ret r ∧ r.wf bs ∧ ∀ w, (execOp a.eval o).run P w = .ok (.value r.den) w := by
  unfold pureK at h
  simp only [ho] at h
  replace h := opK_spec h hr0
  obtain ⟨g, h, hgw, hg⟩ := h
  split at h
  · exact ⟨_, h, hgw, fun w => by simp only [execOp, ho, hg, XV.den]; rfl⟩
  · exact ⟨_, h, hgw, fun w => by simp only [execOp, ho, hg, XV.den]; rfl⟩
  · exact ⟨_, h, hgw, fun w => by simp only [execOp, ho, hg, XV.den]; rfl⟩
  · obtain ⟨ad, rfl, h⟩ := h
    exact ⟨_, h, (by simp [XV.wf]), fun w => by simp only [execOp, ho, hg, XV.den]; rfl⟩
  · exact h.elim

theorem pu_unOp {op : UnOp} {t : TypeId} {x : Operand} (ho : o.op = .unOp op t x) (h : pureK T o.op ts ret) (hr0 : Rel bs ts a.tmps.toList) : ∃ r : XV, ret r ∧ r.wf bs ∧ ∀ w, (execOp a.eval o).run P w = .ok (.value r.den) w := by
  unfold pureK at h
  simp only [ho] at h
  replace h := opK_spec h hr0
  obtain ⟨g, h, hgw, hg⟩ := h
  have hr : ∀ w, (execOp a.eval o).run P w = ((Op.unary op g.den).run P w).andThen fun v w' => .ok (.value v) w' := by
    intro w
    simp only [execOp, ho, Sem.run_bind, Sem.run_pure, hg]
  split at h
  · exact ⟨_, h, (by simp [XV.wf]), fun w => by rw [hr]; simp [Op.unary, XV.den]⟩
  · exact ⟨_, h, (by simp [XV.wf]), fun w => by rw [hr]; simp [Op.unary, XV.den]⟩
  · exact ⟨_, h, (by simp [XV.wf]), fun w => by rw [hr]; simp [Op.unary, XV.den, Op.intArith]⟩
  · exact ⟨_, h, (by simp [XV.wf]), fun w => by rw [hr]; simp [Op.unary, XV.den, intBits_xor]⟩
  · exact h.elim

theorem pu_convert {s d : TypeId} {x : Operand} (hT : TableOk P T) (ho : o.op = .convert s d x) (h : pureK T o.op ts ret) (hr0 : Rel bs ts a.tmps.toList) : ∃ r : XV, ret r ∧ r.wf bs ∧ ∀ w, (execOp a.eval o).run P w = .ok (.value r.den) w := by
  unfold pureK at h
  simp only [ho] at h
  replace h := opK_spec h hr0
  obtain ⟨g, h, hgw, hg⟩ := h
  replace h := tiK_facts hT h
  obtain ⟨ts', hs, h⟩ := h
  replace h := tiK_facts hT h
  obtain ⟨td, hd, h⟩ := h
  obtain ⟨ds, is, hds, _⟩ := hs.ex
  have hr : ∀ w, (execOp a.eval o).run P w = ((convert s d g.den).run P w).andThen fun v w' => .ok (.value v) w' := by
    intro w
    simp only [execOp, ho, Sem.run_bind, Sem.run_pure, hg]
  split at h
  · rename_i htd
    have hu := td_int hd htd
    refine ⟨_, h, (by simp [XV.wf]), fun w => ?_⟩
    rw [hr]
    simp [convert, Sem.run_bind, run_underlying hds, run_underlying hu, XV.den, Conv.intToInt]
  · rename_i htd
    have hu := td_string hd htd
    refine ⟨_, h, (by simp [XV.wf]), fun w => ?_⟩
    rw [hr]
    simp only [convert, Sem.run_bind, run_underlying hds, run_underlying hu, XV.den, Result.andThen_ok]
    cases ds <;> simp
  · exact h.elim

theorem pu_fieldAddr {s : TypeId} {f : Nat} {x : Operand} (hT : TableOk P T) (ho : o.op = .fieldAddr s x f) (h : pureK T o.op ts ret) (hr0 : Rel bs ts a.tmps.toList) : ∃ r : XV, ret r ∧ r.wf bs ∧ ∀ w, (execOp a.eval o).run P w = .ok (.value r.den) w := by
  unfold pureK at h
  simp only [ho] at h
  replace h := opK_spec h hr0
  obtain ⟨g, h, hgw, hg⟩ := h
  replace h := tiK_facts hT h
  obtain ⟨ti, hf, h⟩ := h
  have hr : ∀ w, (execOp a.eval o).run P w = ((Instr.fieldAt s g.den f).run P w).andThen fun v w' => .ok (.value v) w' := by
    intro w
    simp only [execOp, ho, Sem.run_bind, Sem.run_pure, hg]
  split at h
  · rename_i fs htd
    obtain ⟨fl, hu, rfl⟩ := td_struct hf htd
    replace h := fldK_spec h
    obtain ⟨off, ty, sz, hfl, hsz, h⟩ := h
    simp only [List.getElem?_map, Option.map_eq_some_iff, Prod.mk.injEq] at hfl
    obtain ⟨fd, hfd, rfl, rfl, rfl⟩ := hfl
    obtain ⟨i, hi, hisz⟩ := info_of_cells fd.type hsz
    have hfd' : fl[f]? = some fd := by simpa using hfd
    split at h
    · refine ⟨_, h, (by simpa [XV.wf] using hgw), fun w => ?_⟩
      rw [hr]
      simp [Instr.fieldAt, Sem.run_bind, run_underlying hu, hfd', Instr.sureAddr, fieldPlace, run_sizeOf' hi, hisz, hsz, XV.den, add_own]
    · refine ⟨_, h, (by simp [XV.wf]), fun w => ?_⟩
      rw [hr]
      simp [Instr.fieldAt, Sem.run_bind, run_underlying hu, hfd', Instr.sureAddr, fieldPlace, run_sizeOf' hi, hisz, hsz, XV.den]
    · exact h.elim
  · exact h.elim

theorem pu_field {s : TypeId} {f : Nat} {x : Operand} (hT : TableOk P T) (ho : o.op = .field s x f) (h : pureK T o.op ts ret) (hr0 : Rel bs ts a.tmps.toList) : ∃ r : XV, ret r ∧ r.wf bs ∧ ∀ w, (execOp a.eval o).run P w = .ok (.value r.den) w := by
  unfold pureK at h
  simp only [ho] at h
  replace h := opK_spec h hr0
  obtain ⟨g, h, hgw, hg⟩ := h
  replace h := tiK_facts hT h
  obtain ⟨ti, hf, h⟩ := h
  have hr : ∀ w, (execOp a.eval o).run P w = ((Instr.field s g.den f).run P w).andThen fun v w' => .ok (.value v) w' := by
    intro w
    simp only [execOp, ho, Sem.run_bind, Sem.run_pure, hg]
  split at h
  · rename_i fs xs htd
    obtain ⟨fl, hu, rfl⟩ := td_struct hf htd
    replace h := fldK_spec h
    obtain ⟨off, ty, sz, hfl, hsz, h⟩ := h
    simp only [List.getElem?_map, Option.map_eq_some_iff, Prod.mk.injEq] at hfl
    obtain ⟨fd, hfd, rfl, rfl, rfl⟩ := hfl
    obtain ⟨i, hi, hisz⟩ := info_of_cells fd.type hsz
    have hfd' : fl[f]? = some fd := by simpa using hfd
    replace h := tiK_facts hT h
    obtain ⟨tf, hff, h⟩ := h
    have hxw : wfL (bs) xs := by simpa [XV.wf] using hgw
    split at h
    · rename_i hag
      replace h := subK_spec _ _ _ _ h
      obtain ⟨h1, h2⟩ := h
      refine ⟨_, h1, (by simpa [XV.wf] using wfL_sub hxw _ _), fun w => ?_⟩
      rw [hr]
      simp only [Instr.field, Sem.run_bind, run_underlying hu, Result.andThen_ok, hfd', asAgg, XV.den, Sem.run_pure, part, td_agg hff, hag, if_true, run_sizeOf' hi, hisz]
      congr 3
      apply Array.ext'
      simp [denL_sub, Array.toList_extract, List.extract_eq_take_drop]
    · rename_i hag
      replace h := subK_spec _ _ _ _ h
      obtain ⟨h1, h2⟩ := h
      split at h1
      · rename_i v hv
        have hv' : xs[fd.offset]? = some v := part1 (K := fun _ => True) (by rw [hv])
        refine ⟨_, h1, ((wfL_iff _ _).1 hxw v (List.mem_of_getElem? hv')), fun w => ?_⟩
        rw [hr]
        have : (denL xs)[fd.offset]? = some v.den := by rw [denL_map]; simp [hv']
        simp [Instr.field, Sem.run_bind, run_underlying hu, hfd', asAgg, XV.den, part, td_agg hff, hag, this]
      · exact h1.elim
  · exact h.elim

theorem pu_indexAddr {t : TypeId} {x ix : Operand} (hT : TableOk P T) (ho : o.op = .indexAddr t x ix) (h : pureK T o.op ts ret) (hr0 : Rel bs ts a.tmps.toList) : ∃ r : XV, ret r ∧ r.wf bs ∧ ∀ w, (execOp a.eval o).run P w = .ok (.value r.den) w := by
  unfold pureK at h
  simp only [ho] at h
  replace h := opK_spec h hr0
  obtain ⟨g, h, hgw, hg⟩ := h
  replace h := opK_spec h hr0
  obtain ⟨u, h, huw, hu⟩ := h
  replace h := tiK_facts hT h
  obtain ⟨ti, hf, h⟩ := h
  have hr : ∀ w, (execOp a.eval o).run P w = ((Instr.indexAt t g.den u.den).run P w).andThen fun v w' => .ok (.value v) w' := by
    intro w
    simp only [execOp, ho, Sem.run_bind, Sem.run_pure, hg, hu]
  split at h
  · rename_i e aa len cap k i htd
    have hun := td_slice hf htd
    replace h := tiK_facts hT h
    obtain ⟨te, hfe, ad, rfl, h0, h1, h⟩ := h
    refine ⟨_, h, (by simp [XV.wf]), fun w => ?_⟩
    rw [hr]
    simp [Instr.indexAt, Sem.run_bind, run_underlying hun, asIntOf, XV.den, h0, h1, td_size hfe]
  · exact h.elim

theorem pu_extract {t : Operand} {i : Nat} (ho : o.op = .extract t i) (h : pureK T o.op ts ret) (hr0 : Rel bs ts a.tmps.toList) : ∃ r : XV, ret r ∧ r.wf bs ∧ ∀ w, (execOp a.eval o).run P w = .ok (.value r.den) w := by
  unfold pureK at h
  simp only [ho] at h
  replace h := opK_spec h hr0
  obtain ⟨g, h, hgw, hg⟩ := h
  have hr : ∀ w, (execOp a.eval o).run P w = ((Instr.extract g.den i).run P w).andThen fun v w' => .ok (.value v) w' := by
    intro w
    simp only [execOp, ho, Sem.run_bind, Sem.run_pure, hg]
  split at h
  · rename_i xs
    have hxw : wfL (bs) xs := by simpa [XV.wf] using hgw
    replace h := subK_spec _ _ _ _ h
    obtain ⟨h1, h2⟩ := h
    split at h1
    · rename_i v hv
      have hv' : xs[i]? = some v := part1 (K := fun _ => True) (by rw [hv])
      refine ⟨_, h1, ((wfL_iff _ _).1 hxw v (List.mem_of_getElem? hv')), fun w => ?_⟩
      rw [hr]
      have : (denL xs)[i]? = some v.den := by rw [denL_map]; simp [hv']
      simp [Instr.extract, XV.den, this]
    · exact h1.elim
  · exact h.elim

end
end Go.Vc
