import Derived.Test.YtnldhkhnfodplaaVcG
namespace Go.Vc
open Go

section
variable {P : Program} {T : List TI} {o : Oper} {ts : List XV} {bx : List Box} {a : Act} {w W : World} {K : KT} {Q : Exit → Act → World → Prop}

theorem pickK_spec {g : Bool} {x y : XV} {ret : Ret} (h : pickK g x y ret) : ∃ r : XV, ret r ∧ (∀ bs, r.wf bs) ∧ r.den = (if g then x.den else y.den) := by
  unfold pickK at h
  split at h <;> first
    | exact h.elim
    | exact ⟨_, h, by simp [XV.wf], by cases g <;> simp [XV.den]⟩

theorem boundK_spec {lo : Option XV} {d bound : Nat} {K : Nat → Prop} (h : boundK lo d bound K) : ∃ n, K n ∧ ((lo = none ∧ n = d) ∨ ∃ k i, lo = some (.int k i) ∧ 0 ≤ i ∧ i ≤ bound ∧ n = i.toNat) := by
  unfold boundK at h
  split at h
  · exact ⟨d, h, .inl ⟨rfl, rfl⟩⟩
  · exact ⟨_, h.2.2, .inr ⟨_, _, rfl, h.1, h.2.1, rfl⟩⟩
  · exact h.elim


theorem opO_spec {lo : Option Operand} {K : Option XV → Prop} {bs : List Nat} (h : opO ts lo K) (hr : Rel bs ts a.tmps.toList) :
    ∃ x : Option XV, K x ∧ (lo.map a.eval = x.map XV.den) := by
  cases lo with
  | none => exact ⟨none, h, rfl⟩
  | some l =>
    obtain ⟨x, h1, h2, h3⟩ := opK_spec h hr
    exact ⟨some x, h1, by simp [h3]⟩

theorem partsK_spec {ps : List (Nat × Operand)} {K : List (Nat × XV) → Prop} {bs : List Nat} (h : partsK ts ps K) (hr : Rel bs ts a.tmps.toList) :
    ∃ xs : List (Nat × XV), K xs ∧ (∀ x ∈ xs, x.2.wf bs) ∧ ps.map (fun (i, x) => (i, a.eval x)) = denP xs := by
  induction ps generalizing K with
  | nil => exact ⟨[], h, by simp, rfl⟩
  | cons p ps ih =>
    obtain ⟨i, x⟩ := p
    obtain ⟨y, h1, h2, h3⟩ := opK_spec h hr
    obtain ⟨ys, h4, h5, h6⟩ := ih h1
    refine ⟨(i, y) :: ys, h4, ?_, by simp only [List.map_cons, h6, denP, h3]⟩
    intro z hz
    rcases List.mem_cons.1 hz with rfl | hz
    · exact h2
    · exact h5 z hz

theorem foldl_wr (cs : List Value) : ∀ (xs : Array Value) (off k : Nat), (cs.zipIdx k).foldl (fun (acc : Array Value) (p : Value × Nat) => acc.setIfInBounds (off + p.2) p.1) xs = (wr xs.toList (off + k) cs).toArray := by
  induction cs with
  | nil => intro xs off k; simp [wr]
  | cons c cs ih =>
    intro xs off k
    simp only [List.zipIdx_cons, List.foldl_cons, ih, wr]
    rw [show off + (k + 1) = off + k + 1 by omega]
    simp

theorem fillK_spec {fs : List (Nat × Nat × Nat)} {bs : List Nat} : ∀ (ps : List (Nat × XV)) (cells : List XV) (K : List XV → Prop), fillK fs cells ps K → (∀ x ∈ ps, x.2.wf bs) → wfL bs cells →
    ∃ r, K r ∧ wfL bs r ∧ Instr.fill (fun i => (fs.map fun f => (f.1, f.2.2))[i]?) (denL cells).toArray (denP ps) = some (denL r).toArray
  | [], cells, K, h, _, hw => ⟨cells, h, hw, by simp [Instr.fill, denP]⟩
  | (i, x) :: ps, cells, K, h, hp, hw => by
    simp only [fillK] at h
    obtain ⟨off, ty, sz, hf, hsz, h⟩ := fldK_spec h
    obtain ⟨cs, h, hcw, hcs⟩ := cellsK_spec (bs := bs) h (hp (i, x) (by simp))
    obtain ⟨hlen, h⟩ := lenK_spec h
    obtain ⟨h, hle⟩ := subK_spec _ _ _ _ h
    rw [wrK_iff] at h
    obtain ⟨r, h1, h2, h3⟩ := fillK_spec ps _ K h (fun y hy => hp y (by simp [hy])) (wfL_wr off hw hcw)
    refine ⟨r, h1, h2, ?_⟩
    have hs : x.den.cells.size = sz := by rw [← Array.length_toList, hcs, denL_length, hlen]
    simp only [denP, Instr.fill, List.getElem?_map, hf, Option.map_some]
    have hgt : ¬ (off + sz > (denL cells).length) := by rw [denL_length]; omega
    simp only [hs, ne_eq, not_true_eq_false, decide_false, List.size_toArray, Bool.false_or, decide_eq_true_eq, hgt, if_false]
    rw [← h3]
    congr 1
    have := foldl_wr (denL cs) (denL cells).toArray off 0
    rw [← Array.foldl_toList, Array.toList_zipIdx, hcs]
    rw [this]
    simp [denL_wr]

theorem exec_v {s : Sem Value} {x : XV} (he : (execOp a.eval o).run P w = (s.run P w).andThen fun v w' => .ok (.value v) w') (hs : s.run P w = .ok x.den w) : (execOp a.eval o).run P w = .ok (.value x.den) w := by
  rw [he, hs]; rfl
end
end Go.Vc
