import Derived.Test.YtclleaffonkegaaGreatB2
import Derived.Lib.ConvBytes
namespace Go.Vc
open Go Go.RowKit
theorem bndF_s {β : Type} {q : β} {i : Int} {n : Nat} {K : Nat → Option β} (h : bndF i n K = some q) : 0 ≤ i ∧ i ≤ (n : Int) ∧ K i.toNat = some q := bnd_s (by change bndF i n K = _; exact h)
theorem setCells_own (g o : Nat) : ∀ (vs : List Value) (i : Nat) (w : World), w.setCells g (o + i) vs = setCells w ⟨g, o, none⟩ i vs
  | [], _, _ => rfl
  | v :: vs, i, w => by simp only [World.setCells, setCells, add_own]; rw [← setCells_own g o vs (i + 1), Nat.add_assoc]
theorem hv_of {U : Nat → Prop} {w : World} {t : DT} {zero : List Value} {z : t.den} (h : t.of (constV zero) = some (z, [])) : t.h U w z zero := by
  obtain ⟨us, us', e, h1, h2⟩ := t.of_h (E := ⟨U, w, fun _ => 0, fun _ => (none, 0), [], []⟩) h (constV_h zero)
  simp only [hL] at h2; subst h2
  rw [List.append_nil] at e; subst e
  exact h1
theorem ofVs_hs {E : Env} {t : DT} (h0 : 0 < t.size) : ∀ {ps : List (Nat × DV)} {n : Nat} {l : List t.den} {vs : List Value}, ofVs t ps n = some l → hL E (ps.map (·.2)) vs →
    t.hs E.U E.w l (vs.flatMap (·.cells.toList)) ∧ (∀ v ∈ vs, v.cells.size = t.size) ∧ (List.zip (ps.map (·.1)) vs) = enumP n vs ∧ l.length = vs.length
  | [], n, l, vs, h, hv => by simp [ofVs] at h; subst h; simp only [List.map_nil, hL] at hv; subst hv; exact ⟨by simpa using DT.hs_nil, by simp, rfl, rfl⟩
  | (i, p) :: ps, n, l, vs, h, hv => by
    simp only [ofVs] at h
    split at h
    · rename_i x hi hx
      have hi := Nat.eq_of_beq_eq_true hi
      subst hi
      split at h
      · rename_i l' hl'
        simp only [Option.some.injEq] at h; subst h
        simp only [List.map_cons, hL] at hv
        obtain ⟨v, vs', rfl, h1, h2⟩ := hv
        obtain ⟨g1, g2, g3, g4⟩ := ofVs_hs h0 hl' h2
        have hc := DT.hv_cells (DT.ofV_h hx h1) h0
        refine ⟨?_, ?_, ?_, by simp [g4]⟩
        · simp only [List.flatMap_cons]; exact DT.hs_app (DT.hs_one hc) g1
        · intro u hu
          rcases List.mem_cons.1 hu with rfl | hu
          · have := t.h_len hc; simpa using this
          · exact g2 u hu
        · simp only [List.map_cons, List.zip_cons_cons, enumP, g3]
      · cases h
    · cases h
theorem rezip_s : ∀ {ps : List (Nat × DV)} {qs : List DV}, qs.length = ps.length → (rezipD ps qs).map (·.2) = qs ∧ (rezipD ps qs).map (·.1) = ps.map (·.1)
  | [], [], _ => ⟨rfl, rfl⟩
  | [], _ :: _, h => by simp at h
  | _ :: _, [], h => by simp at h
  | (i, p) :: ps, q :: qs, h => by
    obtain ⟨h1, h2⟩ := rezip_s (ps := ps) (qs := qs) (by simpa using h)
    simp [rezipD, h1, h2]
theorem snds_s : ∀ (ps : List (Nat × DV)), sndsD ps = ps.map (·.2)
  | [] => rfl
  | (_, p) :: ps => by simp [sndsD, snds_s ps]
section
variable {P : Program} {T : List TI} {V : World} {U0 L : Nat → Prop} {al : Nat → Bool} {B : Nat → Nat} {A : Asg} {ts : List DV} {pb : DBs} {rw : List DR} {a : Act} {w w' : World} {β : Type} {q : β} {o : Oper} {K : DK β} {Q : Exit → Act → World → Prop} {C : ESs} {av : List (Nat × Nat)}
theorem nxt_pure {ts1 : List DV} {pb1 : DBs} {rw1 : List DR} (h : PureOk P (env U0 B A pb1 rw1 w) a o (fun y => retE o.dst y ts1 pb1 rw1 K) q) (m1 : Mem V U0 L B A pb1 rw1 w) (hts : hL (env U0 B A pb1 rw1 w) ts1 a.tmps.toList) (e : Ext al B A pb rw w B A pb1 rw1 w) : o.wp P a w (Nxt V U0 L al B A pb rw w a K q) Q := by
  obtain ⟨r, v, h1, h2, h3⟩ := h
  exact wp_of_value (h3 w) (Nxt.ret h1 m1 hts h2 e)
theorem intsV_s {k : IntKind} : ∀ {vs : List Value} {l : List Int}, intsV k vs = some l → vs = l.map (Value.int k)
  | [], l, h => by simp only [intsV, Option.some.injEq] at h; subst h; rfl
  | v :: vs, l, h => by
    unfold intsV at h
    split at h
    · rename_i k' n
      split at h
      · rename_i l' hk hl
        simp only [Option.some.injEq] at h; subst h
        rw [intsV_s hl, eqk_eq hk]; rfl
      · cases h
    · cases h
theorem arrQ_s {ti : TI} {k : IntKind} {l : List Int} (h : arrQ T ti = some (k, l)) : ti.zero = l.map (Value.int k) ∧ l ≠ [] ∧ l.length < 9223372036854775807 := by
  unfold arrQ at h
  split at h
  · rename_i n e htd
    split at h
    · rename_i k' hn hk
      split at h
      · rename_i l' hl
        split at h
        · rename_i hb
          simp only [Option.some.injEq, Prod.mk.injEq] at h
          obtain ⟨rfl, rfl⟩ := h
          simp only [Bool.and_eq_true] at hb
          have h1 := Nat.eq_of_beq_eq_true hb.1.1
          have h2 : 64 < n := Nat.le_of_ble_eq_true hn
          have h3 : n < 1000000 + 1 := by have := Nat.le_of_ble_eq_true hb.2; omega
          refine ⟨intsV_s hl, fun h0 => ?_, by omega⟩
          subst h0; simp at h1; omega
        · cases h
      · cases h
    · cases h
  · cases h
theorem op_alloc {t : TypeId} {C : ESs} {av : List (Nat × Nat)} (hT : TableOk P T) (ho : o.op = .alloc t) (h : evOp stdW T C al av o ts pb rw K = some q) (m : Mem V U0 L B A pb rw w) (hts : hL (env U0 B A pb rw w) ts a.tmps.toList) : o.wp P a w (Nxt V U0 L al B A pb rw w a K q) Q := by
  simp only [evOp, ho] at h
  split at h
  · rename_i ti hti
    have hf := tiV_f hT hti
    split at h
    · rename_i k l hq
      obtain ⟨hz, h0, hsz⟩ := arrQ_s hq
      obtain ⟨z, zs, hzz⟩ : ∃ z zs, l.map (Value.int k) = z :: zs := by
        cases l with
        | nil => exact absurd rfl h0
        | cons x l => exact ⟨_, _, rfl⟩
      rw [hzz] at hz
      obtain ⟨zv, hzv⟩ := zero_of hf hz
      rw [pushE_eq, litE_eq] at h
      have hrun : (execOp a.eval o).run P w = .ok (.value (.pointer (some ⟨w.heap.size, 0, none⟩))) (w.alloc (.cells (l.map (Value.int k)).toArray t)) := by
        simp only [execOp, ho, Sem.run_bind, Instr.alloc, (hzv w).1, Result.andThen_ok, newVar, newRow, run_newObj, Sem.run_pure, (hzv w).2, hzz]
        rfl
      obtain ⟨m', s, e1, hrow⟩ := m.pushRow (al := al) (e := t) (t := .int k) (l := l) (a := some ⟨w.heap.size, 0, none⟩) (c := l.length) (xs := l.map (Value.int k)) (w' := w.alloc (.cells (l.map (Value.int k)).toArray t)) (alloc_frame _) (fun b hb => heap_alloc_old w _ hb)
        (fun x hx => by simp only [Option.some.injEq] at hx; subst hx; simp)
        ⟨by simp [DT.size], .inr ⟨w.heap.size, l.length, _, rfl, Nat.zero_le _, heap_alloc_new w _, Nat.le_refl _, by rw [maxLen_eq]; omega, by simp [DT.size], by simp only [DT.size]; rw [List.take_of_length_le (by simp)]⟩⟩ hs_ints
      refine wp_of_value hrun (Nxt.ret h m' (noSub s hts) ?_ e1)
      simp only [DV.h]
      exact ⟨t, .int k, l, ⟨w.heap.size, 0, none⟩, by show (rw ++ [DR.own t (.int k) l])[rw.length]? = _; simp, rfl, by show upd A rw.length _ rw.length = _; rw [upd_same], rfl⟩
    split at h
    · rename_i z zs hz
      obtain ⟨zv, hzv⟩ := zero_of hf hz
      refine newDB_ok ?_ h m hts (constV_h _)
      simp only [execOp, ho, Sem.run_bind, Instr.alloc, (hzv w).1, Result.andThen_ok, newVar, newRow, run_newObj, Sem.run_pure, (hzv w).2]
      rfl
    · cases h
  · cases h
theorem sliceQ_ok {t : TypeId} {x : Operand} {lo hi mx : Option Operand} {y : DV} (hT : TableOk P T) (ho : o.op = .slice t x lo hi mx) (h : sliceQ T t (opV ts x) lo hi mx rw = some y) (hts : hL (env U0 B A pb rw w) ts a.tmps.toList) : ∃ v, y.h (env U0 B A pb rw w) v ∧ ∀ w', (execOp a.eval o).run P w' = .ok (.value v) w' := by
  unfold sliceQ at h
  split at h
  · rename_i n e htd
    obtain ⟨ti, hf, htd⟩ := tdV_f hT htd
    have hun := td_array hf htd
    have run1 : ∀ (ad : Addr), a.eval x = .pointer (some ad) → 0 < n → (∃ i, P.info? e = some i) → ∀ w', (execOp a.eval o).run P w' = .ok (.value (.slice (some ad) n n)) w' := by
      intro ad hx hn ⟨i, hi⟩ w'
      simp only [execOp, ho, Option.map_none, Instr.sliceAt, Sem.run_bind, run_underlying hun, Result.andThen_ok, hx, Instr.sureAddr, Sem.run_pure, Instr.sliceBounds, run_sizeOf' hi, Nat.zero_mul, Nat.sub_zero]
      rw [if_neg (by omega)]
      congr 3
    split at h
    · rename_i k j hk hx
      obtain ⟨te, hfe, _⟩ := tdV_f hT hk
      obtain ⟨_, ie, _, hie, _⟩ := hfe.ex
      have hx := opV_h hx hts
      split at h
      · rename_i e' t' l hj
        rw [drV_spec] at hj
        split at h
        · rename_i hb
          simp only [Option.some.injEq] at h; subst h
          simp only [Bool.and_eq_true] at hb
          have h1 := Nat.eq_of_beq_eq_true hb.1
          have h2 : 0 < n := Nat.le_of_ble_eq_true hb.2
          simp only [DV.h] at hx
          obtain ⟨e3, t3, l3, ad, hj3, _, ha, hv⟩ := hx
          have hj3 : rw[j]? = some (.own e3 t3 l3) := hj3
          rw [hj] at hj3; simp only [Option.some.injEq, DR.own.injEq] at hj3
          obtain ⟨rfl, rfl, hl3⟩ := hj3
          cases hl3
          have ha : A j = (some ad, l.length) := ha
          refine ⟨_, ?_, run1 ad hv h2 ⟨ie, hie⟩⟩
          simp only [DV.h]
          exact ⟨_, _, _, hj, by show _ = Value.slice (A j).1 _ (A j).2; rw [ha, h1]⟩
        · cases h
      · cases h
    · rename_i k j i off hk hx
      obtain ⟨te, hfe, _⟩ := tdV_f hT hk
      obtain ⟨_, ie, _, hie, _⟩ := hfe.ex
      have hx := opV_h hx hts
      split at h
      · rename_i e' t' l hj
        rw [drV_spec] at hj
        split at h
        · rename_i hb
          simp only [Option.some.injEq] at h; subst h
          simp only [Bool.and_eq_true] at hb
          have h1 := Nat.eq_of_beq_eq_true hb.1
          have h2 := Nat.eq_of_beq_eq_true hb.2.1
          have h3 : 0 < n := Nat.le_of_ble_eq_true hb.2.2
          subst h2
          simp only [DV.h] at hx
          obtain ⟨e3, t3, l3, ad, hj3, hi, ha, hv⟩ := hx
          have hj3 : rw[j]? = some (.own e3 t3 l3) := hj3
          rw [hj] at hj3; simp only [Option.some.injEq, DR.own.injEq] at hj3
          obtain ⟨rfl, rfl, hl3⟩ := hj3
          cases hl3
          refine ⟨_, ?_, run1 _ hv h3 ⟨ie, hie⟩⟩
          simp only [DV.h]
          exact ⟨_, _, _, ad, hj, hi, ha, by rw [h1, Nat.add_zero]⟩
        · cases h
      · cases h
    · cases h
  · cases h


theorem op_slice {t : TypeId} {x : Operand} {lo hi mx : Option Operand} (hT : TableOk P T) (ho : o.op = .slice t x lo hi mx) (h : evOp stdW T C al av o ts pb rw K = some q) (m : Mem V U0 L B A pb rw w) (hts : hL (env U0 B A pb rw w) ts a.tmps.toList) : o.wp P a w (Nxt V U0 L al B A pb rw w a K q) Q := by
  simp only [evOp, ho] at h
  split at h
  · rename_i y hy
    obtain ⟨v, h1, h2⟩ := sliceQ_ok hT ho hy hts
    exact wp_of_value (h2 w) (Nxt.ret h m hts h1 Ext.refl)
  split at h
  · rename_i j n hc
    obtain ⟨oh, k, rfl, rfl, rfl, hx, hh⟩ : ∃ oh k, lo = none ∧ hi = some oh ∧ mx = none ∧ opV ts x = some (.row j) ∧ opV ts oh = some (.int k n) := by
      unfold cutQ at hc
      split at hc
      · split at hc
        · rename_i j' h' hx' _
          split at hc
          · rename_i k n' hn'
            simp only [Option.some.injEq, Prod.mk.injEq] at hc
            obtain ⟨rfl, rfl⟩ := hc
            exact ⟨h', k, rfl, rfl, rfl, hx', hn'⟩
          · cases hc
        · cases hc
      · cases hc
    have hp1 := opV_h hx hts
    have hp2 := opV_h hh hts
    simp only [DV.h] at hp1 hp2
    split at h
    · rename_i e e2 t' l htd hj
      obtain ⟨ti, hft, htd⟩ := tdV_f hT htd
      rw [drV_spec] at hj
      split at h
      · rename_i te hte
        have hfe := tiV_f hT hte
        split at h
        · rename_i hee hsz
          have hee := Nat.eq_of_beq_eq_true hee
          have hsz := Nat.eq_of_beq_eq_true hsz
          subst hee
          obtain ⟨h0, h1, h⟩ := bndF_s h
          simp only [subLE_eq, subBE_eq, setE_eq] at h
          obtain ⟨e3, t3, l3, hj3, ev1⟩ := hp1
          have hj3 : rw[j]? = some (.own e3 t3 l3) := hj3
          rw [hj] at hj3; simp only [Option.some.injEq, DR.own.injEq] at hj3
          obtain ⟨rfl, rfl, hl3⟩ := hj3
          cases hl3
          obtain ⟨xs1, ho1, hs1⟩ := m.row j e t' l hj
          have hjl := (List.getElem?_eq_some_iff.1 hj).1
          have hcap := owns_cap ho1
          obtain ⟨c, rfl⟩ : ∃ c : Nat, n = c := ⟨n.toNat, by omega⟩
          have hcl : c ≤ l.length := by omega
          simp only [Int.toNat_natCast] at h
          have htk : (l.take c).length = c := by rw [List.length_take]; omega
          have hrun : (execOp a.eval o).run P w = .ok (.value (.slice (A j).1 c (A j).2)) w := by
            have ev1 : a.eval x = .slice (A j).1 l.length (A j).2 := ev1
            simp only [execOp, ho, Sem.run_bind, Sem.run_pure, Option.map_none, Option.map_some, ev1, hp2, Instr.sliceAt, Instr.slice, run_underlying (td_slice hft htd), Result.andThen_ok, Instr.sliceBounds, if_true, run_sliceBound w k c (A j).2 .sliceAcap (by omega) (by omega), td_size hfe, Nat.zero_mul, Nat.sub_zero, Int.toNat_natCast]
            congr 3
            cases (A j).1 <;> simp [Addr.add]
          obtain ⟨m2, s2, e2⟩ := m.putRow (al := al) (j := j) (f := oneD j .junk) (rw' := rw.set j (.own e t' (l.take c))) (e := e) (t := t') (l := l.take c) (a := (A j).1) (c := (A j).2) (w' := w)
            (by rw [List.getElem?_set, if_pos rfl, if_pos hjl]) (fun k hk => by rw [List.getElem?_set, if_neg (Ne.symm hk)])
            (fun i p hp => by
              unfold oneD at hp
              split at hp
              · rename_i hb; simp only [Option.some.injEq] at hp; exact ⟨Nat.eq_of_beq_eq_true hb, hp.symm⟩
              · cases hp)
            (fun hn => by simp [oneD] at hn) (fun hn => by simp [oneD] at hn) ⟨rfl, rfl, rfl, Nat.le_refl _⟩ (fun b hb hnb => rfl)
            (fun y hy => .inl ⟨_, y, hj, by simp, hy, rfl⟩)
            (fun U' lt => ⟨xs1.take (c * t'.size), by
              rw [htk]
              refine ⟨by rw [List.length_take, ho1.1]; exact Nat.min_eq_left (Nat.mul_le_mul_right _ hcl), ?_⟩
              rcases ho1.2 with ⟨hA, hn0⟩ | ⟨g, cap, cur, heq, hb, hg, h5, h6, h7, h8⟩
              · left
                simp only [Value.slice.injEq] at hA ⊢
                exact ⟨⟨hA.1, by omega, hA.2.2⟩, by omega⟩
              · simp only [Value.slice.injEq] at heq
                obtain ⟨hA, _, hC⟩ := heq
                refine .inr ⟨g, cap, cur, by rw [hA, hC], hb, hg, by omega, h6, h7, ?_⟩
                rw [← h8, List.take_take, Nat.min_eq_left (Nat.mul_le_mul_right _ hcl)], DT.hs_take (DT.hs_mono lt hs1) hcl⟩)
          refine wp_of_value hrun (Nxt.ret h m2 (hL_subL s2 _ hts) ?_ e2)
          simp only [DV.h]
          have hset : (rw.set j (DR.own e t' (l.take c)))[j]? = some (.own e t' (l.take c)) := by rw [List.getElem?_set, if_pos rfl, if_pos hjl]
          exact ⟨e, t', l.take c, hset, by show _ = Value.slice (upd A j ((A j).1, (A j).2) j).1 _ (upd A j ((A j).1, (A j).2) j).2; rw [upd_same, htk]⟩
        · cases h
      · cases h
    · cases h
  split at h
  · obtain ⟨ts1, pb1, rw1, ps, h, m1, hts1, _, e1, _⟩ := frzE_s (al := al) _ h m hts (ps := []) (us := []) (by simp [hL])
    exact nxt_pure (purE_ok hT ho hts1 rfl m1.rowsA h) m1 hts1 e1
  · cases h
theorem run_strOf {E : Env} {ns : List Int} {a : Option Addr} {c : Nat} (h : (DT.slc (.int .u8)).h E.U E.w ns [.slice a ns.length c]) (w : World) (hw : w = E.w) : (Conv.bytesToString (.slice a ns.length c)).run P w = .ok (.string (strOf ns)) w := by
  subst hw
  rcases Nat.eq_zero_or_pos ns.length with h0 | h0
  · have : ns = [] := List.length_eq_zero_iff.1 h0
    subst this
    obtain ⟨a', c', e, _⟩ := h
    cases a with
    | none => simp [Conv.bytesToString, Sem.run_pure, strOf]
    | some ad => exact run_bytesToString E.w ad 0 c [] (by simpa using run_loadCells_list (P := P) E.w ad [] (by simp))
  · obtain ⟨ad, us, rfl, hl, hs, hc⟩ := hs_src h (by decide) h0
    refine run_bytesToString E.w ad ns.length c ns ?_
    have := run_loadCells_list (P := P) E.w ad (ns.map (Value.int .u8)) (fun j v hv => by
      rw [List.getElem?_map] at hv
      cases hn : ns[j]? with
      | none => rw [hn] at hv; cases hv
      | some n =>
        rw [hn] at hv; simp only [Option.map_some, Option.some.injEq] at hv; subst hv
        have := hs.2 j n hn
        have h1 : (us.drop (j * 1)).take 1 = [.int .u8 n] := this
        refine hc j _ ?_
        have h2 := congrArg (fun l : List Value => l[0]?) h1
        simpa [List.getElem?_take, List.getElem?_drop] using h2)
    rwa [List.length_map] at this
theorem op_convert {s d : TypeId} {x : Operand} (hT : TableOk P T) (ho : o.op = .convert s d x) (h : evOp stdW T C al av o ts pb rw K = some q) (m : Mem V U0 L B A pb rw w) (hts : hL (env U0 B A pb rw w) ts a.tmps.toList) : o.wp P a w (Nxt V U0 L al B A pb rw w a K q) Q := by
  simp only [evOp, ho] at h
  split at h
  · rename_i str hb
    simp only [bytesQ, ho] at hb
    split at hb
    · rename_i l hx
      split at hb
      · rename_i e hs hd
        split at hb
        · rename_i he
          simp only [Option.some.injEq] at hb; subst hb
          have hp := opV_h hx hts
          simp only [DV.h] at hp
          obtain ⟨aa, c, ev, _⟩ := id hp
          simp only [List.cons.injEq, and_true] at ev
          rw [ev] at hp
          obtain ⟨ti1, f1, d1⟩ := tdV_f hT hs
          obtain ⟨ti2, f2, d2⟩ := tdV_f hT hd
          obtain ⟨ti3, f3, d3⟩ := tdV_f hT he
          refine wp_of_value (v := .string (strOf l)) ?_ (Nxt.ret h m hts (by simp only [DV.h]) Ext.refl)
          have hr : (execOp a.eval o).run P w = ((convert s d (a.eval x)).run P w).andThen fun v w' => .ok (.value v) w' := by
            simp only [execOp, ho, Sem.run_bind, Sem.run_pure]
          rw [hr, ev, run_convert_bytes_string w s d e aa l.length c (td_slice f1 d1) (td_int f3 d3) (td_string f2 d2), run_strOf hp w rfl]
          rfl
        · cases hb
      · cases hb
    · cases hb
  · split at h
    · rename_i str hb
      obtain ⟨hs63, h⟩ := str_s h
      unfold strQ at hb
      split at hb
      · rename_i s0 e hx hs hd
        split at hb
        · rename_i he
          simp only [Option.some.injEq] at hb; subst hb
          have hp := opV_h hx hts
          simp only [DV.h] at hp
          obtain ⟨ti1, f1, d1⟩ := tdV_f hT hs
          obtain ⟨ti2, f2, d2⟩ := tdV_f hT hd
          obtain ⟨ti3, f3, d3⟩ := tdV_f hT he
          have hr : (execOp a.eval o).run P w = ((convert s d (a.eval x)).run P w).andThen fun v w' => .ok (.value v) w' := by
            simp only [execOp, ho, Sem.run_bind, Sem.run_pure]
          rw [hp, Lib.run_convert_string_bytes w s d e s0 (td_string f1 d1) (td_slice f2 d2) (td_int f3 d3)] at hr
          have hsz : w.heap.size ≤ (Lib.bytesWorld w e s0).heap.size := by rw [Lib.bytesWorld_size]; omega
          obtain ⟨m', sb, e1⟩ := m.world (al := al) (w' := Lib.bytesWorld w e s0) ⟨rfl, rfl, rfl, hsz⟩ (fun b hb => Lib.bytesWorld_at_old w e s0 b hb)
          refine wp_of_value hr (Nxt.ret h m' (noSub sb hts) ?_ e1)
          simp only [DV.h]
          have hlen : (bytesI s0).length = s0.size := by simp [bytesI]
          have hg := grownCap_ge w s0.size 0 e
          have hroom := grownCap_le_maxLen w s0.size 0 e (by rw [maxLen_eq]; omega)
          refine ⟨some ⟨w.heap.size, 0, none⟩, grownCap w s0.size 0 e, by rw [hlen], by rw [hlen]; exact hg, hroom, fun i y hy => ⟨[.int .u8 y], rfl, fun j u hj => ?_⟩⟩
          have hy : (bytesI s0)[i]? = some y := hy
          have hi : i < s0.size := by rw [← hlen]; exact (List.getElem?_eq_some_iff.1 hy).1
          cases j with
          | succ j => simp at hj
          | zero =>
            simp only [List.getElem?_cons_zero, Option.some.injEq] at hj; subst hj
            refine ⟨_, rfl, fun hu => ?_, by show w.heap.size < (Lib.bytesWorld w e s0).heap.size; rw [Lib.bytesWorld_size]; exact Nat.lt_succ_self _, ?_⟩
            · have hu : Us U0 B A pb rw w.heap.size := hu
              rcases hu with hu | ⟨k, i, hu⟩
              · have := (m.u0 _ hu).1; have := m.size; omega
              · have := (m.low k i _ hu).1; omega
            · rw [add_own]
              show (Lib.bytesWorld w e s0).cell? ⟨w.heap.size, 0 + (i * 1 + 0), none⟩ = _
              rw [show 0 + (i * 1 + 0) = i by omega, Lib.bytesWorld_cell w e s0 i hi]
              unfold bytesI at hy
              rw [List.getElem?_map] at hy
              obtain ⟨b, hb, rfl⟩ := Option.map_eq_some_iff.1 hy
              simp only [List.getD, hb, Option.getD_some]
        · cases hb
      · cases hb
    · exact nxt_pure (purE_ok hT ho hts rfl m.rowsA h) m hts Ext.refl
theorem op_index {t : TypeId} {x ix : Operand} (hT : TableOk P T) (ho : o.op = .index t x ix) (h : evOp stdW T C al av o ts pb rw K = some q) (m : Mem V U0 L B A pb rw w) (hts : hL (env U0 B A pb rw w) ts a.tmps.toList) : o.wp P a w (Nxt V U0 L al B A pb rw w a K q) Q := by
  simp only [evOp, ho] at h
  split at h
  · rename_i s k i hx hi ht
    have hp := opV_h hx hts
    have hq := opV_h hi hts
    simp only [DV.h] at hp hq
    obtain ⟨ti, hf, htd⟩ := tdV_f hT ht
    change sidxF s i _ = _ at h
    unfold sidxF at h
    rcases bif_s h with ⟨h0, h⟩ | ⟨_, h⟩
    · have h0 : 0 ≤ i := by simpa using h0
      split at h
      · rename_i b hb
        refine wp_of_value (v := .int .u8 b.toNat) ?_ (Nxt.ret h m hts (by simp only [DV.h]) Ext.refl)
        have hr : (execOp a.eval o).run P w = ((Instr.index t (a.eval x) (a.eval ix)).run P w).andThen fun v w' => .ok (.value v) w' := by
          simp only [execOp, ho, Sem.run_bind, Sem.run_pure]
        rw [hr, hp, hq]
        simp [Instr.index, asIntOf, run_underlying (td_string hf htd), h0, hb]
      · cases h
    · cases h
  · cases h
theorem fnsO_s : ∀ {ps : List (Nat × DV)} {n : Nat}, fnsO ps n = true → ps.map (·.1) = List.range' n ps.length ∧ ∀ p ∈ ps.map (·.2), ∃ f cs, p = .fn f cs
  | [], n, _ => ⟨rfl, fun p h => by simp at h⟩
  | (i, p) :: ps, n, h => by
    simp only [fnsO, Bool.and_eq_true] at h
    obtain ⟨h1, h2⟩ := h
    have h1 := Nat.eq_of_beq_eq_true h1
    subst h1
    cases p with
    | fn f cs =>
      obtain ⟨g1, g2⟩ := fnsO_s (show fnsO ps (i + 1) = true from h2)
      refine ⟨by simp only [List.map_cons, g1, List.length_cons, List.range'_succ], fun p hp => ?_⟩
      simp only [List.map_cons, List.mem_cons] at hp
      rcases hp with rfl | hp
      · exact ⟨_, _, rfl⟩
      · exact g2 p hp
    | _ => cases h2
theorem fns_cells {E : Env} : ∀ {ps : List DV} {vs : List Value}, (∀ p ∈ ps, ∃ f cs, p = DV.fn f cs) → hL E ps vs → (∀ v ∈ vs, v.cells.size = 1) ∧ vs.flatMap (·.cells.toList) = vs
  | [], vs, _, h => by simp only [hL] at h; subst h; exact ⟨fun v hv => by simp at hv, rfl⟩
  | p :: ps, vs, hp, h => by
    simp only [hL] at h
    obtain ⟨v, vs', rfl, h1, h2⟩ := h
    obtain ⟨f, cs, rfl⟩ := hp _ (List.mem_cons_self ..)
    obtain ⟨g1, g2⟩ := fns_cells (fun p h => hp p (List.mem_cons_of_mem _ h)) h2
    simp only [DV.h] at h1
    obtain ⟨us, rfl, _⟩ := h1
    have hc : (fnV f us).cells = #[fnV f us] := by unfold fnV; cases Nat.ble 1000000 f <;> rfl
    refine ⟨fun v hv => ?_, by simp only [List.flatMap_cons, hc, g2]; rfl⟩
    rcases List.mem_cons.1 hv with rfl | hv
    · rw [hc]; rfl
    · exact g1 v hv
theorem enumP_of : ∀ {l : List (Nat × Value)} {n : Nat}, l.map (·.1) = List.range' n l.length → l = enumP n (l.map (·.2)) := by
  intro l
  induction l with
  | nil => intro n _; rfl
  | cons p l ih =>
    intro n h
    simp only [List.map_cons, List.length_cons, List.range'_succ, List.cons.injEq] at h
    have := ih h.2
    show p :: l = (n, p.2) :: enumP (n + 1) (l.map (·.2))
    rw [← this, ← h.1]
theorem op_fns {t : TypeId} {len : Nat} {parts : Array (Nat × Operand)} {ps : List (Nat × DV)} {l : List DV} (hT : TableOk P T) (ho : o.op = .buildSlice t len parts) (hl : fnsQ T t len ps = some l)
    (hp1 : hL (env U0 B A pb rw w) (ps.map (·.2)) (parts.toList.map fun p => a.eval p.2)) (hp2 : ps.map (·.1) = parts.toList.map (·.1)) (h : retE o.dst (.fns l) ts pb rw K = some q) (m : Mem V U0 L B A pb rw w) (hts : hL (env U0 B A pb rw w) ts a.tmps.toList) : o.wp P a w (Nxt V U0 L al B A pb rw w a K q) Q := by
  unfold fnsQ at hl
  split at hl
  · rename_i e htd
    obtain ⟨ti, hft, htd⟩ := tdV_f hT htd
    split at hl
    · rename_i te hte
      have hfe := tiV_f hT hte
      split at hl
      · rename_i hb1 hb2
        simp only [Bool.and_eq_true] at hb1 hb2
        simp only [Option.some.injEq] at hl; subst hl
        have hsz := Nat.eq_of_beq_eq_true hb1.1
        have hlen := Nat.eq_of_beq_eq_true hb2.1
        have k2 : 0 < len := Nat.le_of_ble_eq_true hb2.2.1
        have hbd := Nat.le_of_ble_eq_true hb2.2.2.1
        obtain ⟨f1, f2⟩ := fnsO_s hb2.2.2.2
        have h1 : 0 < te.size := by omega
        have hek := elemOk_T hft htd hfe (by rw [hsz]; exact hb1.2.1) h1
        obtain ⟨i, z, hi, hzz, hs1, hby, hzs⟩ := hek.info
        have hps' : parts.toList.map (fun p => (p.1, a.eval p.2)) = enumP 0 (parts.toList.map fun p => a.eval p.2) := by
          have := enumP_of (l := parts.toList.map fun p => (p.1, a.eval p.2)) (n := 0) (by
            have hh : ps.length = parts.toList.length := by have := congrArg List.length hp2; simpa using this
            rw [List.map_map, List.length_map, ← hh, ← f1, hp2]; rfl)
          rw [this, List.map_map]; rfl
        generalize hvs : parts.toList.map (fun p => a.eval p.2) = vs at hp1 hps'
        obtain ⟨c1, c2⟩ := fns_cells f2 hp1
        have hvl : vs.length = len := by rw [hL_len hp1, List.length_map, hlen]
        have hr : (execOp a.eval o).run P w = ((Instr.buildSlice t len (enumP 0 vs).toArray).run P w).andThen fun v w' => .ok (.value v) w' := by
          simp only [execOp, ho, Sem.run_bind, Sem.run_pure]
          congr 3
          rw [← hps']
          apply Array.ext'
          simp
        have hrun : (Instr.buildSlice t len (enumP 0 vs).toArray).run P w = .ok (.slice (some ⟨w.heap.size, 0, none⟩) len len) (w.alloc (.cells vs.toArray e)) := by
          refine run_buildSlice w t e len _ vs.toArray i z hek.under hi hzz (by rw [hs1, hsz]; simp; omega) (by rw [hs1]; have := Nat.mul_pos k2 h1; omega) ?_
          rw [hs1]
          have hz0 : ((Array.range (len * te.size)).map (z.cells[· % z.cells.size]!)) = ([] ++ ((List.range (len * te.size)).map (z.cells[· % z.cells.size]!))).toArray := by
            apply Array.ext'; simp
          rw [hz0, fill_seq te.size _ 0 [] _ (by simp) (by simp [hvl]) (fun v hv => by rw [c1 v hv, hsz])]
          simp [c2]
        rw [hrun] at hr
        obtain ⟨m', s, e1⟩ := m.world (al := al) (alloc_frame (.cells vs.toArray e)) (fun b hb => heap_alloc_old w _ hb)
        refine wp_of_value hr (Nxt.ret h m' (noSub s hts) ?_ e1)
        rw [snds_s]
        simp only [DV.h]
        refine ⟨⟨w.heap.size, 0, none⟩, vs, len, by rw [List.length_map, hlen], noSub s hp1, fun j u hj => ⟨_, rfl, fun hu => ?_, by show w.heap.size < (w.alloc _).heap.size; simp, ?_⟩⟩
        · have hu : Us U0 B A pb rw w.heap.size := hu
          rcases hu with hu | ⟨k, i, hu⟩
          · have := (m.u0 _ hu).1; have := m.size; omega
          · have := (m.low k i _ hu).1; omega
        · rw [add_own, Nat.zero_add, Nat.zero_add]
          show (w.alloc (.cells vs.toArray e)).cell? ⟨w.heap.size, j, none⟩ = some u
          rw [cell_of_block (heap_alloc_new w _)]
          simpa using hj
      · cases hl
    · cases hl
  · cases hl
theorem op_buildSlice {t : TypeId} {len : Nat} {parts : Array (Nat × Operand)} (hT : TableOk P T) (ho : o.op = .buildSlice t len parts) (h : evOp stdW T C al av o ts pb rw K = some q) (m : Mem V U0 L B A pb rw w) (hts : hL (env U0 B A pb rw w) ts a.tmps.toList) : o.wp P a w (Nxt V U0 L al B A pb rw w a K q) Q := by
  simp only [evOp, ho] at h
  split at h
  · rename_i ps hps
    obtain ⟨hp1, hp2⟩ := partsV_h hps hts
    split at h
    · rename_i l hl
      exact op_fns hT ho hl hp1 hp2 h m hts
    rw [snds_s] at h
    obtain ⟨ts1, pb1, rw1, qs, h, m1, hts1, hqs, e1, _⟩ := frzE_s (al := al) _ h m hts hp1
    split at h
    · rename_i e htd
      obtain ⟨ti, hft, htd⟩ := tdV_f hT htd
      split at h
      · rename_i te te' hte _
        have hfe := tiV_f hT hte
        split at h
        · rename_i l hl
          split at h
          · rename_i hsz hlen h1 hbd hz
            have hsz := Nat.eq_of_beq_eq_true hsz
            have hlen := Nat.eq_of_beq_eq_true hlen
            have h1 := Nat.le_of_ble_eq_true h1
            have hbd := Nat.le_of_ble_eq_true hbd
            have hek := elemOk_T hft htd hfe hz h1
            obtain ⟨i, z, hi, hzz, hs1, hby, hzs⟩ := hek.info
            generalize hvs : parts.toList.map (fun p => a.eval p.2) = vs at hqs
            have hql : qs.length = ps.length := by
              have g1 := hL_len hqs; have g2 := hL_len hp1
              rw [hvs] at g2; simp only [List.length_map] at g2; omega
            obtain ⟨r1, r2⟩ := rezip_s hql
            obtain ⟨g1, g2, g3, g4⟩ := ofVs_hs (E := env U0 B A pb1 rw1 w) (by omega) hl (by rw [r1]; exact hqs)
            rw [r2, hp2] at g3
            have hps' : parts.toList.map (fun p => (p.1, a.eval p.2)) = enumP 0 vs := by
              rw [← g3, ← hvs]
              clear hps hp1 hp2 g3 hvs
              induction parts.toList with
              | nil => rfl
              | cons p l ih => simp [ih]
            have hr : (execOp a.eval o).run P w = ((Instr.buildSlice t len (enumP 0 vs).toArray).run P w).andThen fun v w' => .ok (.value v) w' := by
              simp only [execOp, ho, Sem.run_bind, Sem.run_pure]
              congr 3
              rw [← hps']
              apply Array.ext'
              simp
            have hvl : vs.length = len := by omega
            have hrun : (Instr.buildSlice t len (enumP 0 vs).toArray).run P w = .ok (.slice (some ⟨w.heap.size, 0, none⟩) len len) (w.alloc (.cells (vs.flatMap (·.cells.toList)).toArray e)) := by
              rcases Nat.eq_zero_or_pos len with h0 | k2
              · have hz0 : vs = [] := List.length_eq_zero_iff.1 (by omega)
                subst hz0
                rw [h0]
                simp [Instr.buildSlice, run_underlying hek.under, sizeOf, typeInfo, hi, newRow, Instr.fill, enumP]
                have e0 : ∀ f : Nat → Value, Array.map f (Array.range 0) = #[] := fun f => Array.ext' (by simp)
                rw [e0]
              · refine run_buildSlice w t e len _ (vs.flatMap (·.cells.toList)).toArray i z hek.under hi hzz (by rw [hs1]; simp; omega) (by rw [hs1]; have := Nat.mul_pos k2 h1; omega) ?_
                rw [hs1]
                have hz0 : ((Array.range (len * te.size)).map (z.cells[· % z.cells.size]!)) = ([] ++ ((List.range (len * te.size)).map (z.cells[· % z.cells.size]!))).toArray := by
                  apply Array.ext'; simp
                rw [hz0, fill_seq te.size _ 0 [] _ (by simp) (by simp [hvl]) (fun v hv => by rw [g2 v hv, hsz])]
                simp
            have g1 : te'.hs (Us U0 B A pb1 rw1) w l (vs.flatMap fun v => v.cells.toList) := g1
            have hxl : (vs.flatMap (·.cells.toList)).length = len * te.size := by have := g1.1; rw [hsz] at this; rw [this]; congr 1; omega
            rw [hrun] at hr
            have hm : len ≤ maxLen := by
              have : len * 1 ≤ len * te.size := Nat.mul_le_mul_left _ h1
              rw [maxLen_eq]; omega
            rw [hlen] at hr hm hxl
            have := op_pushRow (P := P) (Q := Q) (al := al) (e := e) (t := te') (l := l) (a' := some ⟨w.heap.size, 0, none⟩) (c := l.length) (xs := vs.flatMap (·.cells.toList)) m1 hts1 (w' := w.alloc (.cells (vs.flatMap (·.cells.toList)).toArray e)) hr (alloc_frame _) (fun b hb => heap_alloc_old w _ hb)
              (fun x hx => by simp only [Option.some.injEq] at hx; subst hx; simp)
              ⟨g1.1, .inr ⟨w.heap.size, l.length, _, rfl, Nat.zero_le _, heap_alloc_new w _, Nat.le_refl _, hm, by rw [hsz]; simpa using hxl, by rw [hsz]; exact List.take_of_length_le (by simpa using Nat.le_of_eq hxl)⟩⟩ g1 h
            exact wp_mono0 this fun a' w' hn => Nxt.more e1 rfl hn
          · cases h
        · cases h
      · cases h
    · cases h
  · cases h
theorem op_makeSlice {t : TypeId} {ol oc : Operand} (hT : TableOk P T) (ho : o.op = .makeSlice t ol oc) (h : evOp stdW T C al av o ts pb rw K = some q) (m : Mem V U0 L B A pb rw w) (hts : hL (env U0 B A pb rw w) ts a.tmps.toList) : o.wp P a w (Nxt V U0 L al B A pb rw w a K q) Q := by
  simp only [evOp, ho] at h
  split at h
  · rename_i k1 n k2 c e hl hc htd
    have hl := opV_h hl hts
    have hc := opV_h hc hts
    simp only [DV.h] at hl hc
    obtain ⟨ti, hft, htd⟩ := tdV_f hT htd
    split at h
    · rename_i te te' hte _
      have hfe := tiV_f hT hte
      split at h
      · rename_i z hsz h1 hz hof
        have hsz := Nat.eq_of_beq_eq_true hsz
        have h1 := Nat.le_of_ble_eq_true h1
        have hek := elemOk_T hft htd hfe hz h1
        obtain ⟨i, zv, hi, hzz, hs1, hby, hzs⟩ := hek.info
        have hzero : te.zero = zv.cells.toList := by
          obtain ⟨d, i', g1, g2, g3, g4, g5, g6, g7, g8⟩ := hfe.ex
          rw [hi] at g2; obtain rfl := Option.some.inj g2
          rw [g7, hzz]
        have key : ∀ (n' : Nat), 0 ≤ c → (n : Int) = n' → (n' : Int) ≤ c → c.toNat ≤ 281474976710656 → c.toNat * te.bytes ≤ 140737488355328 →
            (pushE rw (.own e te' (List.replicate n' z)) fun rw' => litE rw.length fun n => retE o.dst (.row n) ts pb rw' K) = some q → o.wp P a w (Nxt V U0 L al B A pb rw w a K q) Q := by
          intro n' h0 hn hnc hm1 hm2 h
          have hm : c.toNat ≤ maxLen := by rw [maxLen_eq]; omega
          have hb1 : (i.bytes : Int) * c ≤ 281474976710656 := by
            rw [hby]
            have e1 : ((te.bytes : Int)) * c = ((c.toNat * te.bytes : Nat) : Int) := by rw [Int.natCast_mul, Int.toNat_of_nonneg (by omega), Int.mul_comm]
            rw [e1]; omega
          have hrun := run_make (P := P) w t e i zv hek.under hi hzz k1 k2 n c (by omega) (by omega) hb1 (by rw [maxLen_eq] at hm; omega)
          have hr : (execOp a.eval o).run P w = ((Instr.makeSlice t (a.eval ol) (a.eval oc)).run P w).andThen fun v w' => .ok (.value v) w' := by
            simp only [execOp, ho, Sem.run_bind, Sem.run_pure]
          rw [hl, hc, hrun, hs1] at hr
          have hn' : n.toNat = n' := by omega
          rw [hn'] at hr
          have hrl : (List.replicate n' z).length = n' := List.length_replicate
          have hzh : te'.h (Us U0 B A pb rw) w z zv.cells.toList := by rw [← hzero]; exact hv_of hof
          refine op_pushRow (P := P) (Q := Q) (al := al) (e := e) (t := te') (l := List.replicate n' z) (a' := some ⟨w.heap.size, 0, none⟩) (c := c.toNat) (xs := (List.replicate n' zv.cells.toList).flatten) m hts (w' := w.alloc (.cells (madeCells zv.cells (c.toNat * te.size)) e)) (by rw [hrl]; exact hr) (alloc_frame _) (fun b hb => heap_alloc_old w _ hb)
            (fun x hx => by simp only [Option.some.injEq] at hx; subst hx; simp) ?_ (DT.hs_repl hzh n') h
          rw [hrl]
          refine ⟨by rw [rep_flat, Array.length_toList, hzs, hsz], .inr ⟨w.heap.size, c.toNat, _, rfl, Nat.zero_le _, heap_alloc_new w _, by omega, hm, by rw [size_madeCells, hsz], ?_⟩⟩
          rw [hsz]
          exact made_take hzs (by omega)
        split at h
        · split at h
          · obtain ⟨h0, h⟩ := nn_s h
            obtain ⟨r1, r2, h⟩ := room_s h
            exact key 0 h0 rfl h0 r1 r2 h
          · cases h
        · obtain ⟨h0, h⟩ := nn_s h
          obtain ⟨r1, r2, h⟩ := room_s h
          obtain ⟨b1, b2, h⟩ := bndF_s h
          exact key n.toNat h0 (by omega) (by omega) r1 r2 h
      · cases h
    · cases h
  · cases h
theorem op_clear {c : Call} {xs : List DV} (hT : TableOk P T) (ho : o.op = .call c) (hcal : c.callee = .builtin .clear) (hxs : hL (env U0 B A pb rw w) xs (c.args.toList.map a.eval)) (h : evOp stdW T C al av o ts pb rw K = some q) (hops : opsV ts c.args.toList = some xs)
    (m : Mem V U0 L B A pb rw w) (hts : hL (env U0 B A pb rw w) ts a.tmps.toList) : o.wp P a w (Nxt V U0 L al B A pb rw w a K q) Q := by
  simp only [evOp, ho, hcal, hops] at h
  split at h
  · rename_i j i t hat
    split at h
    · rename_i e htd
      obtain ⟨ti, hft, htd⟩ := tdV_f hT htd
      split at h
      · rename_i te e2 t' l hte hj
        have hfe := tiV_f hT hte
        rw [drV_spec] at hj
        split at h
        · rename_i z hee hsz hz h1 hof
          have hee := Nat.eq_of_beq_eq_true hee
          subst hee
          have hsz := Nat.eq_of_beq_eq_true hsz
          have h1 := Nat.le_of_ble_eq_true h1
          have hek := elemOk_T hft htd hfe hz h1
          obtain ⟨i', zv, hi2, hzz, hs1, hby, hzs⟩ := hek.info
          have hzero : te.zero = zv.cells.toList := by
            obtain ⟨d, i', g1, g2, g3, g4, g5, g6, g7, g8⟩ := hfe.ex
            rw [hi2] at g2; obtain rfl := Option.some.inj g2
            rw [g7, hzz]
          obtain ⟨b1, b2, h⟩ := bndF_s h
          rw [setE_eq] at h
          have hin : (Int.ofNat i).toNat = i := rfl
          rw [hin] at h
          have hil : i ≤ l.length := by omega
          have hat2 : c.argTypes = #[t] := Array.ext' (by simpa using hat)
          simp only [hL, DV.h] at hxs
          obtain ⟨v, _, ea, ⟨e3, t3, l3, hj3, _, ev⟩, rfl⟩ := hxs
          have hj3 : rw[j]? = some (.own e3 t3 l3) := hj3
          rw [hj] at hj3; simp only [Option.some.injEq, DR.own.injEq] at hj3
          obtain ⟨rfl, rfl, hl3⟩ := hj3
          cases hl3
          have hr : (execOp a.eval o).run P w = ((Builtin.clear_ #[t] o.type #[v]).run P w).andThen fun v w' => .ok (.value v) w' := by
            rw [bi_run ho hcal, hat2, ea]; simp only [builtin, Sem.run_bind, Sem.run_pure]
          change v = Value.slice (if (A j).2 = i then (A j).1 else (A j).1.map (·.add (i * t'.size))) (l.length - i) ((A j).2 - i) at ev
          subst ev
          obtain ⟨xs1, ho1, hs1'⟩ := m.row j e t' l hj
          have hzh : t'.h (Us U0 B A pb rw) w z zv.cells.toList := by rw [← hzero]; exact hv_of hof
          have hjl := (List.getElem?_eq_some_iff.1 hj).1
          rcases Nat.lt_or_ge i l.length with hlt | hge
          · cases hA : (A j).1 with
            | none =>
              rw [hA] at ho1
              rcases ho1.2 with ⟨_, h'⟩ | ⟨_, _, _, h', _⟩
              · omega
              · simp at h'
            | some ad =>
              rw [hA] at ho1
              obtain ⟨g, cur, rfl, hg, hn, hcm, hcs, htk, hcell⟩ := owns_cells ho1
              rw [hA, if_neg (by omega)] at hr
              simp only [Option.map_some, add_own, Nat.zero_add] at hr
              have hvl : (Builtin.zeroCells zv.cells (l.length - i)).toList = (List.replicate (l.length - i) zv.cells.toList).flatten := zero_flat hzs
              have hfl : ((List.replicate (l.length - i) zv.cells.toList).flatten).length = (l.length - i) * t'.size := by rw [rep_flat, show zv.cells.toList.length = t'.size from (Array.length_toList).trans (hzs.trans hsz.symm)]
              have hik : i * t'.size + (l.length - i) * t'.size = l.length * t'.size := by rw [← Nat.add_mul]; congr 1; omega
              have hlc : l.length * t'.size ≤ (A j).2 * t'.size := Nat.mul_le_mul_right _ hn
              have h1c : ∀ v ∈ (List.replicate (l.length - i) zv.cells.toList).flatten, plainC v = true := fun v hv => by
                obtain ⟨l', hl', hu⟩ := List.mem_flatten.1 hv
                rw [(List.mem_replicate.1 hl').2] at hu
                exact t'.h_one hzh v hu
              have hg' : w.heap[g]? = some (.cells cur.toList.toArray e (0, 0)) := by simpa using hg
              have hcl : cur.toList.length = cur.size := Array.length_toList
              have hrun := run_clear_row (P := P) w t e o.type zv hek.under (run_zeroValue' hi2 hzz) g (i * te.size) (l.length - i) ((A j).2 - i) (by omega) (fun k hk => by
                  rw [hvl, hfl] at hk
                  rw [cell_of_block hg', ← hsz, List.getElem?_eq_getElem (by omega)]
                  rfl) (fun k _ => frozen_of_block hg' _) (fun v hv => by rw [hvl] at hv; exact (plainC_one (h1c v hv)).2)
              rw [hsz, hrun, hvl, ← hsz] at hr
              generalize hzs' : (List.replicate (l.length - i) zv.cells.toList).flatten = zz at *
              have hst := store_cells (P := P) hg' (cs := zz) (off := i * t'.size) (fun v hv => (plainC_one (h1c v hv)).1) (by omega)
              have hw : w.setCells g (i * t'.size) zz = setCells w ⟨g, i * t'.size, none⟩ 0 zz := by
                have := setCells_own g (i * t'.size) zz 0 w
                rwa [Nat.add_zero] at this
              rw [hw] at hr
              obtain ⟨m2, s2, e2⟩ := m.putRow (al := al) (j := j) (f := noF) (rw' := rw.set j (.own e t' (l.take i ++ List.replicate (l.length - i) z))) (e := e) (t := t') (l := l.take i ++ List.replicate (l.length - i) z) (a := (A j).1) (c := (A j).2) (w' := setCells w ⟨g, i * t'.size, none⟩ 0 zz)
                (by rw [List.getElem?_set, if_pos rfl, if_pos hjl]) (fun k hk => by rw [List.getElem?_set, if_neg (Ne.symm hk)]) (fun _ _ h => by cases h)
                (fun _ e4 t4 l4 h4 => by
                  rw [hj] at h4; simp only [Option.some.injEq, DR.own.injEq] at h4
                  obtain ⟨rfl, rfl, h4⟩ := h4
                  cases h4
                  exact ⟨_, by rw [List.getElem?_set, if_pos rfl, if_pos hjl], by simp; omega, rfl⟩)
                (fun _ d h4 => by rw [hj] at h4; cases h4) (setCells_frame _ _ _)
                (fun b hb hnb => setCells_ne ⟨g, i * t'.size, none⟩ b (fun he => hnb ⟨_, ⟨g, 0, none⟩, hj, by simp, hA, he.symm⟩) _ _ _)
                (fun x hx => .inl ⟨_, x, hj, by simp, hx, rfl⟩)
                (fun U' lt => by
                  have hlen : (l.take i ++ List.replicate (l.length - i) z).length = l.length := by simp; omega
                  have hxl := hs1'.1
                  refine ⟨xs1.take (i * t'.size) ++ zz, ⟨?_, ?_⟩, ?_⟩
                  · rw [hlen]; simp; omega
                  · refine .inr ⟨g, (A j).2, (wr cur.toList (i * t'.size) zz).toArray, by rw [hA], Nat.zero_le _, hst.2, by rw [hlen]; exact hn, hcm, by rw [List.size_toArray, wr_length, hcl, hcs], ?_⟩
                    rw [hlen, ← htk]
                    apply List.ext_getElem?; intro k
                    rw [List.getElem?_take]
                    by_cases hk : k < l.length * t'.size
                    · rw [if_pos hk, List.toList_toArray, wr_get _ _ _ _ (by omega)]
                      by_cases hk2 : i * t'.size ≤ k
                      · rw [if_pos (by omega), List.getElem?_append_right (by simp; omega)]
                        congr 1; simp; omega
                      · rw [if_neg (by omega), List.getElem?_append_left (by simp; omega), List.getElem?_take, if_pos (by omega), List.getElem?_take, if_pos (by omega)]
                    · rw [if_neg hk, List.getElem?_eq_none (by simp; omega)]
                  · refine DT.hs_app (DT.hs_take (DT.hs_mono lt hs1') hil) ?_
                    have := DT.hs_repl (t'.mono lt hzh) (l.length - i)
                    rwa [hzs'] at this)
              rw [show upd A j ((A j).1, (A j).2) = A from upd_eta A j] at m2 s2 e2
              rw [subB'_no] at m2 s2 e2
              exact wp_of_value hr (Nxt.ret h m2 (noSub s2 hts) (by simp only [DV.h]) e2)
          · have hie : i = l.length := by omega
            have hl0 : l.length - i = 0 := by omega
            have e0 : l.take i ++ List.replicate (l.length - i) z = l := by rw [hl0, hie, List.take_length]; simp
            have e1 : rw.set j (.own e t' l) = rw := by
              apply List.ext_getElem?
              intro k
              rw [List.getElem?_set]
              split
              · rename_i hk; subst hk; first | exact hj.symm | rw [if_pos hjl, hj]
              · rfl
            rw [e0, e1] at h
            rw [hl0, run_clear_none w t e o.type hek.under] at hr
            exact wp_of_value hr (Nxt.ret h m hts (by simp only [DV.h]) Ext.refl)
        · cases h
      · cases h
    · cases h
  · cases h
theorem putA_h {U : Nat → Prop} {w : World} {k : IntKind} : (t : DT) → (x : t.den) → (ns : List Int) → {us : List Value} → arrOk k t = true → t.h U w x us → t.h U w (putA t x ns) (wr us 0 ((ns.take t.size).map (Value.int k)))
  | .unit, x, ns, us, _, h => by
    simp only [putA]
    have hu := DT.unit.h_len h
    have hz : us = [] := List.length_eq_zero_iff.1 hu
    subst hz
    simp only [DT.size, List.take_zero, List.map_nil]
    exact h
  | .pair a b, x, ns, us, ho, h => by
    cases a with
    | int k' =>
      simp only [arrOk, Bool.and_eq_true] at ho
      have hk := eqk_eq ho.1
      subst hk
      obtain ⟨u1, u2, rfl, h1, h2⟩ := h
      have h1 : u1 = [Value.int k' x.1] := h1
      subst h1
      cases ns with
      | nil => rw [List.take_nil, List.map_nil]; exact ⟨_, _, rfl, rfl, h2⟩
      | cons n ns =>
        have ih := putA_h b x.2 ns ho.2 h2
        have hl := b.h_len h2
        refine ⟨[Value.int k' n], _, ?_, rfl, ih⟩
        simp only [DT.size]
        rw [show 1 + b.size = b.size + 1 by omega, List.take_succ_cons, List.map_cons]
        have hle : 0 + ((ns.take b.size).map (Value.int k')).length ≤ u2.length := by simp; omega
        apply List.ext_getElem?; intro j
        rw [wr_get _ _ _ _ (by simp at hle ⊢; omega)]
        cases j with
        | zero => simp
        | succ j =>
          show _ = (wr u2 0 ((ns.take b.size).map (Value.int k')))[j]?
          rw [wr_get _ u2 _ _ hle]
          simp only [List.length_cons, Nat.zero_le, true_and, Nat.sub_zero, List.getElem?_cons_succ, List.singleton_append]
          by_cases hj : j < 0 + ((ns.take b.size).map (Value.int k')).length
          · rw [if_pos hj, if_pos (by omega)]
          · rw [if_neg hj, if_neg (by omega)]
    | _ => simp [arrOk] at ho
  | .int _, _, _, _, ho, _ => by simp [arrOk] at ho
  | .bool, _, _, _, ho, _ => by simp [arrOk] at ho
  | .str, _, _, _, ho, _ => by simp [arrOk] at ho
  | .slc _, _, _, _, ho, _ => by simp [arrOk] at ho
  | .set, _, _, _, ho, _ => by simp [arrOk] at ho
/-- one element of a row, changed -/
theorem Mem.setEl {P : Program} (m : Mem V U0 L B A pb rw w) {j i : Nat} {e : TypeId} {t' : DT} {l : List t'.den} {ad : Addr} {cv : List Value} {z y' : t'.den} (hrj : rw[j]? = some (.own e t' l)) (hz : l[i]? = some z) (ha : (A j).1 = some ad) (hone' : ∀ u ∈ cv, oneC u = true) (hle : cv.length ≤ t'.size)
    (hy : ∀ us, t'.h (Us U0 B A pb rw) w z us → t'.h (Us U0 B A pb rw) w y' (wr us 0 cv)) :
    ∃ g cur, ad = ⟨g, 0, none⟩ ∧ w.heap[g]? = some (.cells (List.toArray cur) e (0, 0)) ∧ i * t'.size + cv.length ≤ cur.length ∧
      Mem V U0 L B A pb (rw.set j (.own e t' (l.set i y'))) (setCells w ⟨g, i * t'.size, none⟩ 0 cv) ∧ Sub noF (env U0 B A pb rw w) (env U0 B A pb (rw.set j (.own e t' (l.set i y'))) (setCells w ⟨g, i * t'.size, none⟩ 0 cv)) ∧
      Ext al B A pb rw w B A pb (rw.set j (.own e t' (l.set i y'))) (setCells w ⟨g, i * t'.size, none⟩ 0 cv) := by
  have hi3 : i < l.length := (List.getElem?_eq_some_iff.1 hz).1
  obtain ⟨xs, h1, h2⟩ := m.row j e t' l hrj
  rw [ha] at h1
  obtain ⟨g, cur, rfl, hg, hn, hcm, hcs', htk, hcell⟩ := owns_cells h1
  have hil := mul_lt_of (k := t'.size) hi3
  have hxl := h2.1
  have hcur : xs.length ≤ cur.size := by rw [← htk, List.length_take]; simp only [Array.length_toList]; omega
  have hle' : i * t'.size + cv.length ≤ cur.toList.length := by have h0 : cur.toList.length = cur.size := Array.length_toList; omega
  have hg' : w.heap[g]? = some (.cells cur.toList.toArray e (0, 0)) := by simpa using hg
  have hst := store_cells (P := P) hg' hone' hle'
  have hus := hy _ (h2.2 i z hz)
  have huse : wr ((xs.drop (i * t'.size)).take t'.size) 0 cv = wr ((xs.drop (i * t'.size)).take t'.size) 0 cv := rfl
  generalize hu0 : wr ((xs.drop (i * t'.size)).take t'.size) 0 cv = us at hus
  have hxs' : (wr cur.toList (i * t'.size) cv).take (l.length * t'.size) = wr xs (i * t'.size) us := by
    have hul := t'.h_len hus
    apply List.ext_getElem?; intro k
    rw [wr_get _ _ _ _ (by omega), List.getElem?_take]
    by_cases hk : k < l.length * t'.size
    · rw [if_pos hk, wr_get _ _ _ _ hle']
      by_cases hk1 : i * t'.size ≤ k ∧ k < i * t'.size + us.length
      · rw [if_pos hk1, ← hu0, wr_get _ _ _ _ (by rw [List.length_take, List.length_drop]; omega)]
        by_cases hk2 : k - i * t'.size < cv.length
        · rw [if_pos (by omega), if_pos (by omega)]; congr 1
        · rw [if_neg (by omega), if_neg (by omega), List.getElem?_take, if_pos (by omega), List.getElem?_drop, ← htk, List.getElem?_take, if_pos (by omega)]
          congr 1; omega
      · rw [if_neg hk1, if_neg (by omega), ← htk, List.getElem?_take, if_pos hk]
    · rw [if_neg hk, if_neg (by omega), List.getElem?_eq_none (by omega)]
  have hlt : j < rw.length := (List.getElem?_eq_some_iff.1 hrj).1
  obtain ⟨m2, s2, e2⟩ := m.putRow (al := al) (j := j) (f := noF) (rw' := rw.set j (.own e t' (l.set i y'))) (e := e) (t := t') (l := l.set i y') (a := (A j).1) (c := (A j).2) (w' := setCells w ⟨g, i * t'.size, none⟩ 0 cv)
    (by rw [List.getElem?_set, if_pos rfl, if_pos hlt]) (fun k hk => by rw [List.getElem?_set, if_neg (Ne.symm hk)]) (fun _ _ h => by cases h)
    (fun _ e4 t4 l4 h4 => by
      rw [hrj] at h4; simp only [Option.some.injEq, DR.own.injEq] at h4
      obtain ⟨rfl, rfl, h4⟩ := h4
      cases h4
      exact ⟨_, by rw [List.getElem?_set, if_pos rfl, if_pos hlt], by simp, rfl⟩)
    (fun _ d h4 => by rw [hrj] at h4; cases h4) (setCells_frame _ _ _)
    (fun b hb hnb => setCells_ne ⟨g, i * t'.size, none⟩ b (fun he => hnb ⟨_, ⟨g, 0, none⟩, hrj, by simp, ha, he.symm⟩) _ _ _)
    (fun x hx => .inl ⟨_, x, hrj, by simp, hx, rfl⟩)
    (fun U' lt => by
      refine ⟨wr xs (i * t'.size) us, ⟨?_, ?_⟩, ?_⟩
      · rw [wr_length, hxl]; simp
      · refine .inr ⟨g, (A j).2, (wr cur.toList (i * t'.size) cv).toArray, by rw [ha], Nat.zero_le _, hst.2, by simpa using hn, hcm, by rw [List.size_toArray, wr_length, Array.length_toList, hcs'], by simpa using hxs'⟩
      · exact DT.hs_set (DT.hs_mono lt h2) hi3 (t'.mono lt hus))
  rw [show upd A j ((A j).1, (A j).2) = A from upd_eta A j] at m2 s2 e2
  rw [subB'_no] at m2 s2 e2
  exact ⟨g, cur.toList, rfl, hg', hle', m2, s2, e2⟩
theorem hs_ints_eq {U : Nat → Prop} {w : World} {k : IntKind} {l : List Int} {us : List Value} (h : (DT.int k).hs U w l us) : us = l.map (Value.int k) := by
  obtain ⟨h1, h2⟩ := h
  have h1 : us.length = l.length := by simpa [DT.size] using h1
  apply List.ext_getElem?; intro i
  rw [List.getElem?_map]
  cases hx : l[i]? with
  | none => rw [List.getElem?_eq_none (by have := List.getElem?_eq_none_iff.1 hx; omega)]; rfl
  | some x =>
    have h3 := h2 i x hx
    have h3 : (us.drop (i * 1)).take 1 = [Value.int k x] := h3
    rw [Nat.mul_one] at h3
    have h4 : ((us.drop i).take 1)[0]? = some (Value.int k x) := by rw [h3]; rfl
    rw [List.getElem?_take, if_pos (by omega), List.getElem?_drop, Nat.add_zero] at h4
    rw [h4]; rfl
theorem op_copy {c : Call} {xs : List DV} (hT : TableOk P T) (ho : o.op = .call c) (hcal : c.callee = .builtin .copy) (hxs : hL (env U0 B A pb rw w) xs (c.args.toList.map a.eval)) (h : evOp stdW T C al av o ts pb rw K = some q) (hops : opsV ts c.args.toList = some xs)
    (m : Mem V U0 L B A pb rw w) (hts : hL (env U0 B A pb rw w) ts a.tmps.toList) : o.wp P a w (Nxt V U0 L al B A pb rw w a K q) Q := by
  simp only [evOp, ho, hcal, hops] at h
  split at h
  · rename_i j i k src t t2 hat
    split at h
    · rename_i te htd
      obtain ⟨ti, hft, htd⟩ := tdV_f hT htd
      have hun := td_slice hft htd
      split at h
      · rename_i tei e t' l hk' hj
        have hfe := tiV_f hT hk'
        rw [drV_spec] at hj
        split at h
        · rename_i hb
          simp only [Bool.and_eq_true] at hb
          have hsz := Nat.eq_of_beq_eq_true hb.1
          obtain ⟨z, hz, h⟩ := nth_s h
          rw [setE_eq] at h
          have hat2 : c.argTypes = #[t, t2] := Array.ext' (by simpa using hat)
          simp only [hL] at hxs
          obtain ⟨v, vs0, ea, hv, u, vs1, eb, hu, ec⟩ := hxs
          subst ec; subst eb
          simp only [DV.h] at hv hu
          obtain ⟨e3, t3, l3, ad, hj3, hi3, ha, rfl⟩ := hv
          have hj3 : rw[j]? = some (.own e3 t3 l3) := hj3
          rw [hj] at hj3; simp only [Option.some.injEq, DR.own.injEq] at hj3
          obtain ⟨rfl, rfl, hl3⟩ := hj3
          cases hl3
          have ha : (A j).1 = some ad := ha
          have hu0 := hu
          obtain ⟨aa, cc, hu1, _, _, _⟩ := hu
          simp only [List.cons.injEq, and_true] at hu1
          subst hu1
          have hcl : ((src.take t'.size).map (Value.int k)).length = min t'.size src.length := by simp
          have hone : ∀ u ∈ (src.take t'.size).map (Value.int k), oneC u = true := fun u hu => by
            obtain ⟨n, _, rfl⟩ := List.mem_map.1 hu; rfl
          obtain ⟨g, cur, rfl, hg, hle, m2, s2, e2⟩ := m.setEl (P := P) (al := al) (cv := (src.take t'.size).map (Value.int k)) (y' := putA t' z src) hj hz ha hone (by rw [hcl]; omega) (fun us hus => putA_h t' z src hb.2 hus)
          have hr : (execOp a.eval o).run P w = ((Builtin.copy_ #[t, t2] o.type #[.slice (some ⟨g, i * t'.size, none⟩) t'.size t'.size, .slice aa src.length cc]).run P w).andThen fun v w' => .ok (.value v) w' := by
            rw [bi_run ho hcal, hat2, ea]; simp only [builtin, Sem.run_bind, Sem.run_pure, add_own, Nat.zero_add]
          have hst := store_cells (P := P) hg hone hle
          obtain ⟨d, ie, hd1, hie, hd2, hisz, _⟩ := hfe.ex
          have hsz1 : ie.size = 1 := by rw [← hisz, hsz]
          have hrun : (Builtin.copy_ #[t, t2] o.type #[.slice (some ⟨g, i * t'.size, none⟩) t'.size t'.size, .slice aa src.length cc]).run P w = .ok (goInt ((min t'.size src.length : Nat) : Int)) (setCells w ⟨g, i * t'.size, none⟩ 0 ((src.take t'.size).map (Value.int k))) := by
            have hmin : Nat.min src.length t'.size = ((src.take t'.size).map (Value.int k)).length := by rw [hcl]; exact Nat.min_comm _ _
            cases aa with
            | none =>
              have hs0 : src = [] := by
                cases hs : src with
                | nil => rfl
                | cons x src' => obtain ⟨ad, us, h9, _⟩ := hs_src hu0 (by simp [DT.size]) (by rw [hs]; simp); cases h9
              subst hs0
              simp [Builtin.copy_, run_underlying hun, Builtin.lenOf, Builtin.firstCells, sizeOf, typeInfo, hie, storeCells, setCells]
              try (congr 1; omega)
            | some sa =>
              have hl : (loadCells sa (((src.take t'.size).map (Value.int k)).length * ie.size)).run P w = .ok ((src.take t'.size).map (Value.int k)).toArray w := by
                rw [hsz1, Nat.mul_one]
                refine run_loadCells_list (P := P) w sa _ fun n v hn => ?_
                have hn' : (src.map (Value.int k))[n]? = some v := by
                  rw [List.map_take, List.getElem?_take] at hn
                  split at hn
                  · exact hn
                  · cases hn
                have h0 : 0 < src.length := by have := (List.getElem?_eq_some_iff.1 hn').1; simp at this; omega
                obtain ⟨ad, us, h9, g1, g2, g3⟩ := hs_src hu0 (by simp [DT.size]) h0
                simp only [Option.some.injEq] at h9; subst h9
                refine g3 n v ?_
                rw [hs_ints_eq g2]; exact hn'
              rw [← hcl]
              have hst1 := hst.1
              clear m2 s2 e2 hst h
              generalize hcc : (src.take t'.size).map (Value.int k) = cs at hl hst1 hmin ⊢
              simp only [Builtin.copy_, Sem.run_bind, run_underlying hun, Result.andThen_ok, Builtin.lenOf, Sem.run_pure, Builtin.firstCells, run_sizeOf' hie, hmin, hl, hst1, List.getElem?_toArray, List.getElem?_cons_zero, List.getElem?_cons_succ]
          rw [hrun] at hr
          exact wp_of_value hr (Nxt.ret h m2 (noSub s2 hts) (by simp only [DV.h]; rfl) e2)
        · cases h
      · cases h
    · cases h
  · cases h
end
end Go.Vc

namespace Go.Vc
open Go Go.RowKit Go.ChangeMaps
section
variable {P : Program} {T : List TI} {V : World} {U0 L : Nat → Prop} {al : Nat → Bool} {B : Nat → Nat} {A : Asg} {ts : List DV} {pb : DBs} {rw : List DR} {a : Act} {w w' : World} {β : Type} {q : β} {o : Oper} {K : DK β} {Q : Exit → Act → World → Prop} {C : ESs} {av : List (Nat × Nat)}
/-- what stands in a block of its own: new (it stood nowhere), or turned -/
theorem Mem.putObj (m : Mem V U0 L B A pb rw w) {j : Nat} {rw' : List DR} {d : OD} {ob : Obj} {b : Nat} (hj : rw'[j]? = some (.obj d)) (hi : ∀ i, i ≠ j → rw'[i]? = rw[i]?)
    (hold : ((rw[j]? = none) ∧ w.heap.size ≤ b ∧ b < w'.heap.size) ∨ ∃ d0, rw[j]? = some (.obj d0) ∧ d.isM = d0.isM ∧ (A j).1 = some ⟨b, 0, none⟩ ∧ b < w'.heap.size)
    (hr : w'.os = w.os ∧ w'.tape = w.tape ∧ w'.output = w.output ∧ w.heap.size ≤ w'.heap.size) (hk : ∀ c, c < w.heap.size → c ≠ b → w'.heap[c]? = w.heap[c]?) (hw : w'.heap[b]? = some ob)
    (hd : ∀ U', Later (Us U0 B A pb rw) U' w w' → d.h U' w' ob) :
    Mem V U0 L B (upd A j (some ⟨b, 0, none⟩, (A j).2)) pb rw' w' ∧ Sub noF (env U0 B A pb rw w) (env U0 B (upd A j (some ⟨b, 0, none⟩, (A j).2)) pb rw' w') ∧ Ext al B A pb rw w B (upd A j (some ⟨b, 0, none⟩, (A j).2)) pb rw' w' := by
  have hb : ∀ k i c, blk B (upd A j (some ⟨b, 0, none⟩, (A j).2)) pb rw' k i c → (¬ (k = true ∧ i = j) ∧ blk B A pb rw k i c) ∨ (k = true ∧ i = j ∧ c = b) := by
    intro k i c h
    cases k with
    | false => exact .inl ⟨by simp, h⟩
    | true =>
      obtain ⟨r, ad, h1, h2, h3, h4⟩ := h
      by_cases hij : i = j
      · subst hij; rw [upd_same] at h3; simp only [Option.some.injEq] at h3; subst h3; exact .inr ⟨rfl, rfl, h4.symm⟩
      · rw [upd_ne _ _ hij] at h3; rw [hi i hij] at h1; exact .inl ⟨by simp [hij], r, ad, h1, h2, h3, h4⟩
  have hown : ∀ k i, blk B A pb rw k i b → k = true ∧ i = j := by
    intro k i h
    rcases hold with ⟨_, h1, _⟩ | ⟨d0, h1, _, h2, _⟩
    · have := (m.low k i b h).1; omega
    · exact m.inj _ _ _ _ _ h ⟨_, _, h1, by simp, h2, rfl⟩
  have hl : ∀ k i c, blk B A pb rw k i c → ¬ (k = true ∧ i = j) → w'.heap[c]? = w.heap[c]? := fun k i c h hne => hk c (m.low k i c h).1 (by rintro rfl; exact hne (hown k i h))
  refine m.step noF hr (fun c hc hn => hk c hc ?_) (fun k i c h => ?_) (fun k i k' i' c h h' => ?_) (fun i h => ⟨h, rfl⟩) (fun i e t l _ h => ?_) (fun i d1 _ h => ?_) (fun _ i q e t l h => by cases h) (fun _ i q d ad h => by cases h)
    (fun s i b' h => .inl ⟨b', h, rfl, by rw [subL_no], id, hl false i _ ⟨⟨_, h⟩, rfl⟩ (by simp)⟩) (fun _ i e t l h => ?_) fun lt i d1 h => ?_
  · rintro rfl
    rcases hold with ⟨_, h1, _⟩ | ⟨d0, h1, _, h2, _⟩
    · omega
    · exact hn (.inr ⟨j, _, _, h1, by simp, h2, rfl⟩)
  · rcases hb k i c h with ⟨_, h⟩ | ⟨rfl, rfl, rfl⟩
    · exact .inl h
    · rcases hold with ⟨_, h1, h2⟩ | ⟨d0, h1, _, h2, _⟩
      · exact .inr ⟨h1, h2⟩
      · exact .inl ⟨_, _, h1, by simp, h2, rfl⟩
  · rcases hb k i c h with ⟨hn, g⟩ | ⟨rfl, rfl, rfl⟩
    · rcases hb k' i' c h' with ⟨_, g'⟩ | ⟨rfl, rfl, rfl⟩
      · exact m.inj _ _ _ _ _ g g'
      · exact absurd (hown k i g) hn
    · rcases hb k' i' _ h' with ⟨hn, g⟩ | ⟨rfl, rfl, _⟩
      · exact absurd (hown k' i' g) hn
      · exact ⟨rfl, rfl⟩
  · have hij : i ≠ j := by
      rintro rfl
      rcases hold with ⟨h1, _⟩ | ⟨d0, h1, _⟩
      · rw [h1] at h; cases h
      · rw [h1] at h; cases h
    exact ⟨l, by show rw'[i]? = _; rw [hi i hij]; exact h, rfl, upd_ne _ _ hij⟩
  · by_cases hij : i = j
    · subst hij
      rcases hold with ⟨h1, _⟩ | ⟨d0, h1, hm, h2, _⟩
      · rw [h1] at h; cases h
      · rw [h1] at h; simp only [Option.some.injEq, DR.obj.injEq] at h; subst h
        refine ⟨⟨_, hj, hm⟩, ?_⟩
        show upd A i _ i = A i
        rw [upd_same, ← h2]
    · exact ⟨⟨d1, by show rw'[i]? = _; rw [hi i hij]; exact h, rfl⟩, upd_ne _ _ hij⟩
  · have hij : i ≠ j := by rintro rfl; rw [hj] at h; cases h
    rw [hi i hij] at h
    exact .inl ⟨h, upd_ne _ _ hij, fun ad had => hl true i _ ⟨_, ad, h, by simp, had, rfl⟩ (by simp [hij])⟩
  · by_cases hij : i = j
    · subst hij
      rw [hj] at h; simp only [Option.some.injEq, DR.obj.injEq] at h
      subst h
      exact .inr ⟨b, ob, by rw [upd_same], hw, hd _ lt⟩
    · rw [hi i hij] at h
      exact .inl ⟨h, upd_ne _ _ hij, fun ad had => hl true i _ ⟨_, ad, h, by simp, had, rfl⟩ (by simp [hij])⟩
/-- a new one, behind all rows -/
theorem Mem.pushObj (m : Mem V U0 L B A pb rw w) (d : OD) (ob : Obj) (hd : ∀ U', Later (Us U0 B A pb rw) U' w (w.alloc ob) → d.h U' (w.alloc ob) ob) :
    Mem V U0 L B (upd A rw.length (some ⟨w.heap.size, 0, none⟩, (A rw.length).2)) pb (rw ++ [.obj d]) (w.alloc ob) ∧ Sub noF (env U0 B A pb rw w) (env U0 B (upd A rw.length (some ⟨w.heap.size, 0, none⟩, (A rw.length).2)) pb (rw ++ [.obj d]) (w.alloc ob)) ∧
      Ext al B A pb rw w B (upd A rw.length (some ⟨w.heap.size, 0, none⟩, (A rw.length).2)) pb (rw ++ [.obj d]) (w.alloc ob) ∧
      (DV.ob rw.length).h (env U0 B (upd A rw.length (some ⟨w.heap.size, 0, none⟩, (A rw.length).2)) pb (rw ++ [.obj d]) (w.alloc ob)) (d.at ⟨w.heap.size, 0, none⟩) := by
  have hj : (rw ++ [DR.obj d])[rw.length]? = some (.obj d) := by simp
  obtain ⟨m', s', e⟩ := m.putObj (al := al) (j := rw.length) (rw' := rw ++ [.obj d]) (d := d) (ob := ob) (b := w.heap.size) (w' := w.alloc ob) hj (fun i hi => by
        rcases Nat.lt_or_ge i rw.length with h | h
        · rw [List.getElem?_append_left h]
        · rw [List.getElem?_eq_none (by simp; omega), List.getElem?_eq_none h]) (.inl ⟨List.getElem?_eq_none (Nat.le_refl _), Nat.le_refl _, by simp⟩) (alloc_frame _) (fun c hc _ => heap_alloc_old w _ hc) (heap_alloc_new w _) hd
  refine ⟨m', s', e, ?_⟩
  simp only [DV.h]
  exact ⟨d, _, hj, by show (upd A rw.length _ rw.length).1 = _; rw [upd_same], rfl⟩
/-- one that stands there, turned -/
theorem Mem.turnObj (m : Mem V U0 L B A pb rw w) {j b : Nat} {d0 d : OD} {ob : Obj} (hj : rw[j]? = some (.obj d0)) (hm : d.isM = d0.isM) (hA : (A j).1 = some ⟨b, 0, none⟩) (hb : b < w.heap.size) {w1 : World} (hw1 : w1.heap = w.heap ∧ w1.os = w.os ∧ w1.tape = w.tape ∧ w1.output = w.output)
    (hd : ∀ U', Later (Us U0 B A pb rw) U' w (setBlock w1 b ob) → d.h U' (setBlock w1 b ob) ob) :
    Mem V U0 L B A pb (rw.set j (.obj d)) (setBlock w1 b ob) ∧ Sub noF (env U0 B A pb rw w) (env U0 B A pb (rw.set j (.obj d)) (setBlock w1 b ob)) ∧ Ext al B A pb rw w B A pb (rw.set j (.obj d)) (setBlock w1 b ob) := by
  have hjl := (List.getElem?_eq_some_iff.1 hj).1
  have hb1 : b < w1.heap.size := by rw [hw1.1]; exact hb
  obtain ⟨m', s', e⟩ := m.putObj (al := al) (j := j) (rw' := rw.set j (.obj d)) (d := d) (ob := ob) (b := b) (w' := setBlock w1 b ob) (by rw [List.getElem?_set, if_pos rfl, if_pos hjl]) (fun i hi => by rw [List.getElem?_set, if_neg (Ne.symm hi)])
    (.inr ⟨d0, hj, hm, hA, by simpa [setBlock] using hb1⟩) ⟨hw1.2.1, hw1.2.2.1, hw1.2.2.2, by simp [setBlock, hw1.1]⟩ (fun c hc hne => by rw [heapSet_ne hne, hw1.1]) (heapSet_eq hb1) hd
  have e0 : upd A j (some (⟨b, 0, none⟩ : Addr), (A j).2) = A := by rw [← hA]; exact upd_eta A j
  rw [e0] at m' s' e
  exact ⟨m', s', e⟩
/-- one that is given up -/
theorem Mem.killObj (m : Mem V U0 L B A pb rw w) {j : Nat} {d : OD} (hj : rw[j]? = some (.obj d)) :
    Mem V U0 L B A (subB' (oneD j .junk) pb) (rw.set j .dead) w ∧ Sub (oneD j .junk) (env U0 B A pb rw w) (env U0 B A (subB' (oneD j .junk) pb) (rw.set j .dead) w) ∧ Ext al B A pb rw w B A (subB' (oneD j .junk) pb) (rw.set j .dead) w ∧
      ∀ b, (A j).1 = some ⟨b, 0, none⟩ → ¬ Us U0 B A (subB' (oneD j .junk) pb) (rw.set j .dead) b := by
  have hne : ∀ i, i ≠ j → (rw.set j DR.dead)[i]? = rw[i]? := fun i h => by rw [List.getElem?_set, if_neg (Ne.symm h)]
  have hjj : (rw.set j DR.dead)[j]? = some .dead := by rw [List.getElem?_set, if_pos rfl, if_pos (List.getElem?_eq_some_iff.1 hj).1]
  have hb : ∀ k i b, blk B A (subB' (oneD j .junk) pb) (rw.set j .dead) k i b → blk B A pb rw k i b ∧ ¬ (k = true ∧ i = j) := by
    intro k i b h
    cases k with
    | false => exact ⟨⟨subB'_live.1 h.1, h.2⟩, by simp⟩
    | true =>
      obtain ⟨r, ad, h1, h2, h3, h4⟩ := h
      have hij : i ≠ j := by rintro rfl; rw [hjj] at h1; simp at h1; exact h2 h1.symm
      rw [hne i hij] at h1
      exact ⟨⟨r, ad, h1, h2, h3, h4⟩, by simp [hij]⟩
  have h1 : ∀ i, oneD j .junk i = none → i ≠ j := by
    rintro i h rfl; simp [oneD] at h
  have h2 : ∀ i q, oneD j .junk i = some q → i = j ∧ q = .junk := by
    intro i q h
    unfold oneD at h
    split at h
    · rename_i hb; simp at h; exact ⟨Nat.eq_of_beq_eq_true hb, h.symm⟩
    · cases h
  obtain ⟨m', s', e⟩ := m.step (al := al) (oneD j .junk) (w' := w) (B' := B) (A' := A) (pb' := subB' (oneD j .junk) pb) (rw' := rw.set j .dead) ⟨rfl, rfl, rfl, Nat.le_refl _⟩ (fun _ _ _ => rfl) (fun k i b h => .inl (hb k i b h).1) (fun k i k' i' b h h' => m.inj _ _ _ _ _ (hb k i b h).1 (hb k' i' b h').1) (fun i h => ⟨subB'_live.2 h, rfl⟩)
    (fun i e' t' l' hf h => ⟨l', (hne i (h1 i hf)).trans h, rfl, rfl⟩) (fun i d hf h => ⟨⟨d, (hne i (h1 i hf)).trans h, rfl⟩, rfl⟩) (fun lt i q e' t' l' hf h => by obtain ⟨rfl, rfl⟩ := h2 i q hf; simp only [DV.h]) (fun _ i q d ad hf _ _ => by obtain ⟨rfl, rfl⟩ := h2 i q hf; simp only [DV.h]) (fun s i b' h => by
      obtain ⟨b0, h0, rfl⟩ := subB'_get.1 h
      exact .inl ⟨b0, h0, rfl, rfl, id, rfl⟩) (fun _ i e' t' l' h => by
      have hij : i ≠ j := by rintro rfl; rw [hjj] at h; cases h
      exact .inl ⟨(hne i hij).symm.trans h, rfl, fun _ _ => rfl⟩) fun _ i d h => by
      have hij : i ≠ j := by rintro rfl; rw [hjj] at h; cases h
      exact .inl ⟨(hne i hij).symm.trans h, rfl, fun _ _ => rfl⟩
  refine ⟨m', s', e, fun b hA hu => ?_⟩
  have hbj : blk B A pb rw true j b := ⟨_, _, hj, by simp, hA, rfl⟩
  rcases hu with hu | ⟨k, i', hu⟩
  · have := m.u0 b hu
    rcases (m.low _ _ _ hbj).2 with h | h
    · omega
    · exact this.2 h
  · obtain ⟨g1, g2⟩ := hb k i' b hu
    exact g2 (m.inj _ _ _ _ _ g1 hbj)
theorem op_range {t : TypeId} {x : Operand} (hT : TableOk P T) (ho : o.op = .range t x) (h : evOp stdW T C al av o ts pb rw K = some q) (m : Mem V U0 L B A pb rw w) (hts : hL (env U0 B A pb rw w) ts a.tmps.toList) : o.wp P a w (Nxt V U0 L al B A pb rw w a K q) Q := by
  simp only [evOp, ho] at h
  split at h
  · rename_i s hx ht
    have hp := opV_h hx hts
    simp only [DV.h] at hp
    obtain ⟨ti, hf, htd⟩ := tdV_f hT ht
    rw [pushE_eq, litE_eq] at h
    have hr : (execOp a.eval o).run P w = ((Instr.range t (a.eval x)).run P w).andThen fun v w' => .ok (.value v) w' := by
      simp only [execOp, ho, Sem.run_bind, Sem.run_pure]
    have hrun : (Instr.range t (.string s)).run P w = .ok (.pointer (some ⟨w.heap.size, 0, none⟩)) (w.alloc (.stringIter s 0)) := by simp [Instr.range, run_underlying (td_string hf htd)]
    rw [hp, hrun] at hr
    obtain ⟨m', s', e, hv⟩ := m.pushObj (al := al) (.itr s 0) (.stringIter s 0) (fun _ _ => rfl)
    exact wp_of_value hr (Nxt.ret h m' (noSub s' hts) hv e)
  · rename_i j k0 e0 hx ht
    split at h
    · rename_i ks hj
      rw [drV_spec] at hj
      have hp := opV_h hx hts
      simp only [DV.h] at hp
      obtain ⟨d1, ad, hj1, hA, hv⟩ := hp
      have hA : (A j).1 = some ad := hA
      have hj1 : rw[j]? = some (.obj d1) := hj1
      rw [hj] at hj1; simp only [Option.some.injEq, DR.obj.injEq] at hj1; subst hj1
      obtain ⟨b, ob, hb, hwb, es, clock, rfl, hso⟩ := m.itr j _ hj
      rw [hA] at hb; simp only [Option.some.injEq] at hb; subst hb
      obtain ⟨ti, hf, htd⟩ := tdV_f hT ht
      have hr : (execOp a.eval o).run P w = ((Instr.range t (a.eval x)).run P w).andThen fun v w' => .ok (.value v) w' := by
        simp only [execOp, ho, Sem.run_bind, Sem.run_pure]
      rw [hv, show (OD.set ks).at ⟨b, 0, none⟩ = .map (some b) from rfl, run_range_map w t _ _ b es clock (td_map hf htd) hwb] at hr
      rw [subLE_eq, subBE_eq, setE_eq, pushE_eq, litE_eq] at h
      have hbl := (Array.getElem?_eq_some_iff.1 hwb).1
      obtain ⟨m1, s1, e1, hn⟩ := m.killObj (al := al) hj
      have hn := hn b hA
      obtain ⟨m', s', e2, hv'⟩ := m1.pushObj (al := al) (.walk ks []) (.mapIter (some b) clock #[] clock) (fun U' lt =>
        ⟨b, es, clock, clock, #[], [], rfl, fun hu => hn (lt.sub _ hbl hu), Nat.lt_of_lt_of_le hbl lt.size, (heap_alloc_old w _ hbl).trans hwb, hso, hso.lt, Nat.le_refl _, rfl, rfl, by simp, by simp⟩)
      exact wp_of_value hr (Nxt.more e1 rfl (Nxt.ret h m' (noSub s' (hL_subL s1 _ hts)) hv' e2))
    · cases h
  · cases h
theorem op_next {x : Operand} {b0 : Bool} (ho : o.op = .next x b0) (h : evOp stdW T C al av o ts pb rw K = some q) (m : Mem V U0 L B A pb rw w) (hts : hL (env U0 B A pb rw w) ts a.tmps.toList) : o.wp P a w (Nxt V U0 L al B A pb rw w a K q) Q := by
  simp only [evOp, ho] at h
  split at h
  · rename_i j hx
    split at h
    · rename_i s p hj
      rw [drV_spec] at hj
      have hp := opV_h hx hts
      simp only [DV.h] at hp
      obtain ⟨d1, ad, hj1, hA, hv⟩ := hp
      have hA : (A j).1 = some ad := hA
      have hj1 : rw[j]? = some (.obj d1) := hj1
      rw [hj] at hj1; simp only [Option.some.injEq, DR.obj.injEq] at hj1; subst hj1
      obtain ⟨b, ob, hb, hwb, rfl⟩ := m.itr j _ hj
      rw [hA] at hb; simp only [Option.some.injEq] at hb; subst hb
      replace hv : a.eval x = .pointer (some ⟨b, 0, none⟩) := hv
      have hr : (execOp a.eval o).run P w = ((Instr.next (a.eval x) true o.type).run P w).andThen fun v w' => .ok (.value v) w' := by
        simp only [execOp, ho, Sem.run_bind, Sem.run_pure]
      rw [hv] at hr
      change nextF s p _ _ = _ at h
      unfold nextF at h
      rcases bif_s h with ⟨hps, h⟩ | ⟨hps, h⟩
      · have hps : p.toNat < s.size := by simpa using hps
        dsimp only at h
        rw [setE_eq] at h
        have hbl := (Array.getElem?_eq_some_iff.1 hwb).1
        have hjl := (List.getElem?_eq_some_iff.1 hj).1
        have hrun : (Instr.next (.pointer (some ⟨b, 0, none⟩)) true o.type).run P w = .ok (.tuple #[.bool true, goInt p.toNat, .int .i32 (Utf8.decode s p.toNat).1]) { w with heap := w.heap.setIfInBounds b (.stringIter s (p.toNat + (Utf8.decode s p.toNat).2)) } := by
          simp [Instr.next, getObj, setObj, Sem.run, hwb, hps]
        rw [hrun] at hr
        obtain ⟨m', s', e⟩ := m.turnObj (al := al) (d := .itr s ((p.toNat + (Utf8.decode s p.toNat).2 : Nat) : Int)) (ob := .stringIter s (p.toNat + (Utf8.decode s p.toNat).2)) hj rfl hA hbl (w1 := w) ⟨rfl, rfl, rfl, rfl⟩ (fun _ _ => by simp only [OD.h, Int.toNat_natCast])
        refine wp_of_value hr (Nxt.ret h m' (noSub s' hts) ?_ e)
        simp only [DV.h, hL]
        exact ⟨_, rfl, _, _, rfl, rfl, _, _, rfl, rfl, _, _, rfl, rfl, rfl⟩
      · have hps : ¬ p.toNat < s.size := by simpa using hps
        have hrun : (Instr.next (.pointer (some ⟨b, 0, none⟩)) true o.type).run P w = .ok (.tuple #[.bool false]) w := by
          simp [Instr.next, getObj, Sem.run, hwb, hps]
        rw [hrun] at hr
        refine wp_of_value hr (Nxt.ret h m hts ?_ Ext.refl)
        simp only [DV.h, hL]
        exact ⟨_, rfl, _, _, rfl, rfl, rfl⟩
    · cases h
  · cases h
theorem op_makeMap {t : TypeId} {r : Option Operand} (hT : TableOk P T) (ho : o.op = .makeMap t r) (h : evOp stdW T C al av o ts pb rw K = some q) (m : Mem V U0 L B A pb rw w) (hts : hL (env U0 B A pb rw w) ts a.tmps.toList) : o.wp P a w (Nxt V U0 L al B A pb rw w a K q) Q := by
  simp only [evOp, ho] at h
  split at h
  · rename_i k0 e0 ht
    obtain ⟨ti, hf, htd⟩ := tdV_f hT ht
    rw [pushE_eq, litE_eq] at h
    have hr : (execOp a.eval o).run P w = ((Instr.makeMap t none).run P w).andThen fun v w' => .ok (.value v) w' := by
      simp only [execOp, ho, Sem.run_bind, Sem.run_pure, Option.map_none]
    have hrun : (Instr.makeMap t none).run P w = .ok (.map (some w.heap.size)) (w.alloc (.map #[] 0)) := by rfl
    rw [hrun] at hr
    obtain ⟨m', s', e, hv⟩ := m.pushObj (al := al) (.set []) (.map #[] 0) (fun _ _ => ⟨#[], 0, rfl, rfl, by simp, by simp, by simp, by simp, by simp⟩)
    exact wp_of_value hr (Nxt.ret h m' (noSub s' hts) hv e)
  · cases h
theorem addU_val {ks : List KU} {k : KU} {ks' : List Value} (h : (kV k ∈ ks.map kV ∧ ks' = ks.map kV) ∨ (kV k ∉ ks.map kV ∧ ks' = ks.map kV ++ [kV k])) : ks' = (addU ks k).map kV := by
  unfold addU
  rcases h with ⟨h1, h2⟩ | ⟨h1, h2⟩
  · rw [memU_iff.2 (kV_mem.1 h1), h2]; rfl
  · have : memU k ks = false := by
      cases hm : memU k ks with
      | true => exact absurd (kV_mem.2 (memU_iff.1 hm)) h1
      | false => rfl
    rw [this, h2]; simp
theorem kV_h {U : Nat → Prop} {w : World} {k : KU} {v : Value} (h : tKU.hv U w k v) : v = kV k := by
  obtain ⟨us, h, rfl⟩ := h
  simp only [DT.h] at h
  obtain ⟨us1, us', rfl, rfl, us2, us3, rfl, rfl, rfl⟩ := h
  rfl
theorem h_kV {E : Env} (k : KU) : (tKU.val k).h E (kV k) := by
  simp only [DT.val, DT.cells, DV.h, hL]
  exact ⟨_, rfl, _, _, rfl, rfl, _, _, rfl, rfl, rfl⟩
theorem op_mapUpdate {t : TypeId} {x y z : Operand} (hT : TableOk P T) (ho : o.op = .mapUpdate t x y z) (h : evOp stdW T C al av o ts pb rw K = some q) (m : Mem V U0 L B A pb rw w) (hts : hL (env U0 B A pb rw w) ts a.tmps.toList) : o.wp P a w (Nxt V U0 L al B A pb rw w a K q) Q := by
  simp only [evOp, ho] at h
  split at h
  · rename_i kt et j kd ht hx hy hz
    split at h
    · rename_i ks k hj hk
      rw [drV_spec] at hj
      have hp := opV_h hx hts
      have hpy := opV_h hy hts
      have hpz := opV_h hz hts
      simp only [DV.h] at hp hpz
      obtain ⟨d1, ad, hj1, hA, hv⟩ := hp
      have hA : (A j).1 = some ad := hA
      have hj1 : rw[j]? = some (.obj d1) := hj1
      rw [hj] at hj1; simp only [Option.some.injEq, DR.obj.injEq] at hj1; subst hj1
      obtain ⟨b, ob, hb, hwb, es, clock, rfl, hso⟩ := m.itr j _ hj
      rw [hA] at hb; simp only [Option.some.injEq] at hb; subst hb
      replace hv : a.eval x = .map (some b) := hv
      have hky := kV_h (DT.ofV_h hk hpy)
      obtain ⟨ti, hf, htd⟩ := tdV_f hT ht
      have hbl := (Array.getElem?_eq_some_iff.1 hwb).1
      obtain ⟨es', clock', ks', hrun, hso', hd⟩ := set_store (tdV_k hT ht).key (td_map hf htd) hwb hso (k := kV k) ⟨k.1, k.2.1, rfl⟩
      have hr : (execOp a.eval o).run P w = ((Instr.mapUpdate t (a.eval x) (a.eval y) (a.eval z)).run P w).andThen fun _ w' => .ok .skip w' := by
        simp only [execOp, ho, Sem.run_bind, Sem.run_pure]
      rw [hv, hky, hpz, hrun] at hr
      rw [setE_eq] at h
      have hks := addU_val hd
      subst hks
      obtain ⟨m', s', e⟩ := m.turnObj (al := al) (d := .set (addU ks k)) (ob := .map es' clock') hj rfl hA hbl (w1 := w) ⟨rfl, rfl, rfl, rfl⟩ (fun _ _ => ⟨es', clock', rfl, hso'⟩)
      exact wp_of_skip hr (Nxt.ret h m' (noSub s' hts) (by simp only [DV.h]) e)
    · cases h
  · cases h
theorem lastI {dn : List KU} {K : KU → Option β} (h : stdW.idx dn ((dn.length : Int) - 1) K = some q) : ∃ k, dn[dn.length - 1]? = some k ∧ K k = some q := by
  change idxF dn ((dn.length : Int) - 1) K = some q at h
  unfold idxF at h
  rw [show ((dn.length : Int) - 1).toNat = dn.length - 1 by omega] at h
  split at h
  · rename_i x hx
    rcases bif_s h with ⟨_, h⟩ | ⟨_, h⟩
    · exact ⟨x, hx, h⟩
    · cases h
  · cases h
theorem op_lookup {t : TypeId} {x y : Operand} {c : Bool} (hT : TableOk P T) (ho : o.op = .lookup t x y c) (h : evOp stdW T C al av o ts pb rw K = some q) (m : Mem V U0 L B A pb rw w) (hts : hL (env U0 B A pb rw w) ts a.tmps.toList) : o.wp P a w (Nxt V U0 L al B A pb rw w a K q) Q := by
  simp only [evOp, ho] at h
  split at h
  · rename_i kt et p kd ht hx hy
    have hp := opV_h hx hts
    have hpy := opV_h hy hts
    have hr : (execOp a.eval o).run P w = ((Instr.lookup t (a.eval x) (a.eval y) false).run P w).andThen fun v w' => .ok (.value v) w' := by
      simp only [execOp, ho, Sem.run_bind, Sem.run_pure]
    obtain ⟨ti, hf, htd⟩ := tdV_f hT ht
    split at h
    · rename_i k hk
      have hky := kV_h (DT.ofV_h hk hpy)
      split at h
      · rename_i ks
        simp only [DV.h] at hp
        obtain ⟨b, es, clock, hv, _, _, hwb, hso⟩ := hp
        simp only [List.cons.injEq, and_true] at hv
        replace hwb : w.heap[b]? = some (.map es clock) := hwb
        rw [hv, hky, set_lookup (tdV_k hT ht) (td_map hf htd) hwb hso k] at hr
        exact wp_of_value hr (Nxt.ret h m hts (by simp only [DV.h]) Ext.refl)
      · rename_i j
        split at h
        · rename_i ks hj
          rw [drV_spec] at hj
          simp only [DV.h] at hp
          obtain ⟨d1, ad, hj1, hA, hv⟩ := hp
          have hA : (A j).1 = some ad := hA
          have hj1 : rw[j]? = some (.obj d1) := hj1
          rw [hj] at hj1; simp only [Option.some.injEq, DR.obj.injEq] at hj1; subst hj1
          obtain ⟨b, ob, hb, hwb, es, clock, rfl, hso⟩ := m.itr j _ hj
          rw [hA] at hb; simp only [Option.some.injEq] at hb; subst hb
          replace hv : a.eval x = .map (some b) := hv
          rw [hv, hky, set_lookup (tdV_k hT ht) (td_map hf htd) hwb hso k] at hr
          exact wp_of_value hr (Nxt.ret h m hts (by simp only [DV.h]) Ext.refl)
        · cases h
      · cases h
    · cases h
  · cases h
theorem op_entry {x : Operand} (ho : o.op = .entry x) (h : evOp stdW T C al av o ts pb rw K = some q) (m : Mem V U0 L B A pb rw w) (hts : hL (env U0 B A pb rw w) ts a.tmps.toList) : o.wp P a w (Nxt V U0 L al B A pb rw w a K q) Q := by
  simp only [evOp, ho] at h
  split at h
  · rename_i j hx
    split at h
    · rename_i ks dn hj
      rw [drV_spec] at hj
      obtain ⟨k, hk, h⟩ := lastI h
      have hp := opV_h hx hts
      simp only [DV.h] at hp
      obtain ⟨d1, ad, hj1, hA, hv⟩ := hp
      have hA : (A j).1 = some ad := hA
      have hj1 : rw[j]? = some (.obj d1) := hj1
      rw [hj] at hj1; simp only [Option.some.injEq, DR.obj.injEq] at hj1; subst hj1
      obtain ⟨b, ob, hb, hwb, bm, es, clock, since, seen, ds, H⟩ := m.itr j _ hj
      rw [hA] at hb; simp only [Option.some.injEq] at hb; subst hb
      replace hv : a.eval x = .pointer (some ⟨b, 0, none⟩) := hv
      have hr : (execOp a.eval o).run P w = ((Instr.entry (a.eval x)).run P w).andThen fun v w' => .ok (.value v) w' := by
        simp only [execOp, ho, Sem.run_bind, Sem.run_pure]
      rw [hv, H.entry hk hwb] at hr
      refine wp_of_value hr (Nxt.ret h m hts ?_ Ext.refl)
      simp only [DV.h, hL]
      exact ⟨_, rfl, _, _, rfl, h_kV k, _, _, rfl, rfl, rfl⟩
    · cases h
  · cases h
/-- the next one of a set -/
theorem op_pick [EqB β] {j : Nat} {ks dn : List KU} (hp : pickQ o ts rw = some (j, ks, dn))
    (h : (stdW.pick (restU ks dn) (fun k => setE rw j (.obj (.walk ks (dn ++ [k]))) fun rw' => retE o.dst (.tup [.lit true, tKU.val k, .lit true]) ts pb rw' K) (retE o.dst (.tup [.lit false]) ts pb rw K)) = some q)
    (m : Mem V U0 L B A pb rw w) (hts : hL (env U0 B A pb rw w) ts a.tmps.toList) : o.wp P a w (Nxt V U0 L al B A pb rw w a K q) Q := by
  unfold pickQ at hp
  split at hp
  · rename_i x ho
    split at hp
    · rename_i j1 hx
      split at hp
      · rename_i ks1 dn1 hj
        simp only [Option.some.injEq, Prod.mk.injEq] at hp
        obtain ⟨rfl, rfl, rfl⟩ := hp
        rw [drV_spec] at hj
        have hp := opV_h hx hts
        simp only [DV.h] at hp
        obtain ⟨d1, ad, hj1, hA, hv⟩ := hp
        have hA : (A j1).1 = some ad := hA
        have hj1 : rw[j1]? = some (.obj d1) := hj1
        rw [hj] at hj1; simp only [Option.some.injEq, DR.obj.injEq] at hj1; subst hj1
        obtain ⟨b, ob, hb, hwb, bm, es, clock, since, seen, ds, H⟩ := m.itr j1 _ hj
        rw [hA] at hb; simp only [Option.some.injEq] at hb; subst hb
        replace hv : a.eval x = .pointer (some ⟨b, 0, none⟩) := hv
        have hr : (execOp a.eval o).run P w = ((Instr.next (a.eval x) false o.type).run P w).andThen fun v w' => .ok (.value v) w' := by
          simp only [execOp, ho, Sem.run_bind, Sem.run_pure]
        have hne : b ≠ bm := fun e => H.nu (.inr ⟨true, j1, _, _, hj, by simp, hA, e⟩)
        have hbl := (Array.getElem?_eq_some_iff.1 hwb).1
        obtain ⟨h0, h1⟩ := pickF_s (show pickF _ _ _ = some q from h)
        rcases H.next (P := P) (ty := o.type) hwb hne with ⟨hrun, he⟩ | ⟨k, w1, o', hk, hrun, hw1, hW⟩
        · rw [hv, hrun] at hr
          refine wp_of_value hr (Nxt.ret (h0 he) m hts ?_ Ext.refl)
          simp only [DV.h, hL]
          exact ⟨_, rfl, _, _, rfl, rfl, rfl⟩
        · rw [hv, hrun] at hr
          have hq := h1 k hk
          rw [setE_eq] at hq
          obtain ⟨m', s', e⟩ := m.turnObj (al := al) (d := .walk ks1 (dn1 ++ [k])) (ob := o') hj rfl hA hbl (w1 := w1) hw1 (fun U' lt => hW U' _ (fun hu => H.nu (lt.sub _ H.low hu)) (Nat.lt_of_lt_of_le H.low lt.size) (by rw [heapSet_ne (Ne.symm hne), hw1.1]))
          refine wp_of_value hr (Nxt.ret hq m' (noSub s' hts) ?_ e)
          simp only [DV.h, hL]
          exact ⟨_, rfl, _, _, rfl, rfl, _, _, rfl, h_kV k, _, _, rfl, rfl, rfl⟩
      · cases hp
    · cases hp
  · cases hp
end
end Go.Vc

namespace Go.Vc
open Go Go.RowKit
/-! ### Contracts -/
def Ow (B : Nat → Nat) (A : Asg) (pb : DBs) (rw : List DR) : Nat → Prop := fun b => ∃ k i, blk B A pb rw k i b
/-- A FUNCTION, of what its arguments are known to be -/
def Ctr (P : Program) (g : FuncId) (args : List DV) (pb : DBs) (rw : List DR) (Q : DV → DBs → List DR → Prop) : Prop :=
  ∀ (U0 : Nat → Prop) (B : Nat → Nat) (A : Asg) (vs : List Value) (w : World), Mem w U0 (Ow B A pb rw) B A pb rw w → hL (env U0 B A pb rw w) args vs →
    CallsX P g vs.toArray w fun v w' => ∃ B' A' r pb' rw', Mem w U0 (Ow B A pb rw) B' A' pb' rw' w' ∧ r.h (env U0 B' A' pb' rw' w') v ∧ (∀ i, live pb i → live pb' i ∧ B' i = B i) ∧ Q r pb' rw'
def ESok (P : Program) (g : FuncId) (s : ES) : Prop := ∀ x q, s.fn x = some q → Ctr P g (argVs s.P x) [] [] fun r pb' rw' => pb' = [] ∧ (r, rw') = s.Q.mk q []
def LSok (P : Program) (g : FuncId) (s : LS) : Prop := ∀ z o, s.fn z = some o →
  Ctr P g (pkM s.P .unit (bkM s.B _ z []).2.1 (bkM s.B _ z []).2.2).1 (bkM s.B _ z []).1 (pkM s.P .unit (bkM s.B _ z []).2.1 (bkM s.B _ z []).2.2).2.2
    fun r pb' rw' => pb' = (bkM s.E .unit o.2 []).1 ∧ (r, rw') = s.Q.mk o.1 (bkM s.E .unit o.2 []).2.2
def MUok (P : Program) (g : FuncId) (s : MU) : Prop := ∀ l z l', s.fn l z = some l' → l'.length = l.length ∧
  ∀ (U0 : Nat → Prop) (B : Nat → Nat) (A : Asg) (vs : List Value) (w : World), Mem w U0 (Ow B A [] [.own s.e s.t l]) B A [] [.own s.e s.t l] w → hL (env U0 B A [] [.own s.e s.t l] w) (.row 0 :: (pkM s.P .unit z []).1) vs →
    CallsX P g vs.toArray w fun v w' => v = .tuple #[] ∧ Mem w U0 (Ow B A [] [.own s.e s.t l]) B A [] [.own s.e s.t l'] w'
def ECok (P : Program) (g : FuncId) : EC → Prop
  | .mu s => MUok P g s
  | .es s => ESok P g s
  | .ls s => LSok P g s
def CsOk (P : Program) : ESs → Prop
  | [] => True
  | (n, c) :: C => ECok P n c ∧ CsOk P C
theorem esL_s {P : Program} : ∀ {C : ESs} {g : Nat} {xs : List DV} {c : EC}, CsOk P C → c ∈ esL C g xs → ECok P g c
  | [], g, xs, c, hC, h => by simp [esL] at h
  | (n, s) :: C, g, xs, c, hC, h => by
    simp only [esL] at h
    split at h
    · rename_i hb
      simp only [Bool.and_eq_true] at hb
      rcases List.mem_cons.1 h with rfl | h
      · have := Nat.eq_of_beq_eq_true hb.1
        subst this
        exact hC.1
      · exact esL_s hC.2 h
    · exact esL_s hC.2 h
theorem pickL_ok {P : Program} {J : List (Nat × DJ)} {n : Nat} : ∀ {C : ESs} (i : Nat), CsOk P C → CsOk P (pickL J n i C)
  | [], _, h => h
  | (g, c) :: C, i, h => by
    simp only [pickL]
    split
    · exact pickL_ok (i + 1) h.2
    · exact ⟨h.1, pickL_ok (i + 1) h.2⟩
theorem pickC_ok {P : Program} {J : List (Nat × DJ)} {C : ESs} (h : CsOk P C) : CsOk P (pickC J C) := by
  unfold pickC
  split
  · exact pickL_ok 0 h
  · exact h
/-! ### What is lent -/
def lB (B : Nat → Nat) (σ : Nat → Option Nat) : Nat → Nat := fun k => B ((σ k).getD 0)
def lA (A : Asg) (rs : List (Option Nat)) : Asg := fun n => match rs[n]? with | some (some j) => A j | _ => (none, 0)
def lU (U : Nat → Prop) (B : Nat → Nat) (A : Asg) (rw : List DR) (L0 : Nat → Prop) (bor : Nat → Prop) : Nat → Prop := fun b => U b ∧ ¬ L0 b ∧ ¬ ∃ j, bor j ∧ blk B A [] rw true j b
section
variable {V : World} {U0 L : Nat → Prop} {al : Nat → Bool} {B : Nat → Nat} {A : Asg} {ts : List DV} {pb : DBs} {rw : List DR} {w : World}
theorem Mem.lend (m : Mem V U0 L B A pb rw w) {σ : Nat → Option Nat} {rs : List (Option Nat)} {bor : Nat → Prop} {pb0 : DBs} {rw0 : List DR}
    (hb : ∀ (k : Nat) (b0 : DB), pb0[k]? = some (some b0) → ∃ i b, σ k = some i ∧ pb[i]? = some (some b) ∧ b0.ty = b.ty ∧ b0.w = true)
    (hc : ∀ (k : Nat) (b0 : DB) (i : Nat) (b : DB), pb0[k]? = some (some b0) → σ k = some i → pb[i]? = some (some b) → ∀ vs, hL (env U0 B A pb rw w) b.cells vs → hL (env (lU (Us U0 B A pb rw) B A rw (Ow (lB B σ) (lA A rs) pb0 rw0) bor) (lB B σ) (lA A rs) pb0 rw0 w) b0.cells vs)
    (hσ : ∀ (k k' i : Nat), σ k = some i → σ k' = some i → k = k')
    (hr : ∀ (n : Nat) (r : DR), rw0[n]? = some r → (∃ j e t l, rs[n]? = some (some j) ∧ rw[j]? = some r ∧ r = .own e t l) ∨ (rs[n]? = some none ∧ ∃ e t, r = .own e t []))
    (hρ : ∀ (n n' j : Nat), rs[n]? = some (some j) → rs[n']? = some (some j) → n = n') :
    Mem w (lU (Us U0 B A pb rw) B A rw (Ow (lB B σ) (lA A rs) pb0 rw0) bor) (Ow (lB B σ) (lA A rs) pb0 rw0) (lB B σ) (lA A rs) pb0 rw0 w ∧
      (∀ b, Us (lU (Us U0 B A pb rw) B A rw (Ow (lB B σ) (lA A rs) pb0 rw0) bor) (lB B σ) (lA A rs) pb0 rw0 b → Us U0 B A pb rw b) ∧
      (∀ n b, blk (lB B σ) (lA A rs) pb0 rw0 true n b → ∃ j, rs[n]? = some (some j) ∧ blk B A pb rw true j b) ∧
      (∀ k b, blk (lB B σ) (lA A rs) pb0 rw0 false k b → ∃ i, σ k = some i ∧ blk B A pb rw false i b) := by
  have h1 : ∀ n b, blk (lB B σ) (lA A rs) pb0 rw0 true n b → ∃ j, rs[n]? = some (some j) ∧ blk B A pb rw true j b := by
    rintro n b ⟨r, ad, g1, g2, g3, g4⟩
    rcases hr n r g1 with ⟨j, e, t, l, k1, k2, k3⟩ | ⟨k1, _⟩
    · refine ⟨j, k1, r, ad, k2, g2, ?_, g4⟩
      simpa only [lA, k1] using g3
    · simp only [lA, k1] at g3; cases g3
  have h2 : ∀ k b, blk (lB B σ) (lA A rs) pb0 rw0 false k b → ∃ i, σ k = some i ∧ blk B A pb rw false i b := by
    rintro k b ⟨⟨b0, g1⟩, g2⟩
    obtain ⟨i, b1, k1, k2, _⟩ := hb k b0 g1
    exact ⟨i, k1, ⟨b1, k2⟩, by simpa only [lB, k1, Option.getD_some] using g2⟩
  have h3 : ∀ k i b, blk (lB B σ) (lA A rs) pb0 rw0 k i b → ∃ i', blk B A pb rw k i' b := by
    intro k i b h
    cases k with
    | true => obtain ⟨j, _, h⟩ := h1 i b h; exact ⟨j, h⟩
    | false => obtain ⟨j, _, h⟩ := h2 i b h; exact ⟨j, h⟩
  have hU : ∀ b, Us (lU (Us U0 B A pb rw) B A rw (Ow (lB B σ) (lA A rs) pb0 rw0) bor) (lB B σ) (lA A rs) pb0 rw0 b → Us U0 B A pb rw b := by
    rintro b (⟨h, _⟩ | ⟨k, i, h⟩)
    · exact h
    · obtain ⟨i', h⟩ := h3 k i b h; exact .inr ⟨k, i', h⟩
  have hlt : ∀ b, Us U0 B A pb rw b → b < w.heap.size := by
    rintro b (h | ⟨k, i, h⟩)
    · exact Nat.lt_of_lt_of_le (m.u0 b h).1 m.size
    · exact (m.low k i b h).1
  refine ⟨⟨rfl, rfl, rfl, Nat.le_refl _, fun _ _ _ => rfl, fun b h => ⟨hlt b h.1, h.2.1⟩, fun k i b h => ?_, fun k i k' i' b h h' => ?_, fun k b0 h => ?_, fun n e t l h => ?_, fun n d h => ?_⟩, hU, h1, h2⟩
  · obtain ⟨i', g⟩ := h3 k i b h; exact ⟨(m.low k i' b g).1, .inr ⟨k, i, h⟩⟩
  · cases k with
    | true =>
      obtain ⟨j, g1, g2⟩ := h1 i b h
      cases k' with
      | true => obtain ⟨j', g3, g4⟩ := h1 i' b h'; have := (m.inj _ _ _ _ _ g2 g4).2; subst this; exact ⟨rfl, hρ _ _ _ g1 g3⟩
      | false => obtain ⟨j', g3, g4⟩ := h2 i' b h'; have := (m.inj _ _ _ _ _ g2 g4).1; cases this
    | false =>
      obtain ⟨j, g1, g2⟩ := h2 i b h
      cases k' with
      | true => obtain ⟨j', g3, g4⟩ := h1 i' b h'; have := (m.inj _ _ _ _ _ g2 g4).1; cases this
      | false => obtain ⟨j', g3, g4⟩ := h2 i' b h'; have := (m.inj _ _ _ _ _ g2 g4).2; subst this; exact ⟨rfl, hσ _ _ _ g1 g3⟩
  · obtain ⟨i, b, g1, g2, g3, g4⟩ := hb k b0 h
    obtain ⟨cs, k1, k2, _⟩ := m.box i b g2
    exact ⟨cs, by simp only [lB, g1, Option.getD_some, g3]; exact k1, hc k b0 i b h g1 g2 cs k2, fun hw => by rw [g4] at hw; cases hw⟩
  · rcases hr n _ h with ⟨j, e', t', l', k1, k2, k3⟩ | ⟨k1, e', t', k3⟩
    · obtain ⟨xs, g1, g2⟩ := m.row j e t l k2
      refine ⟨xs, by simp only [lA, k1]; exact g1, DT.hs_mono ⟨fun _ _ _ => rfl, Nat.le_refl _, fun b _ h => hU b h⟩ g2⟩
    · simp only [DR.own.injEq] at k3
      obtain ⟨rfl, rfl, k3⟩ := k3
      cases k3
      exact ⟨[], by simp only [lA, k1]; exact World.ownsRow_nil w 0 e t.size, DT.hs_nil⟩
  · rcases hr n _ h with ⟨j, e', t', l', k1, k2, k3⟩ | ⟨k1, e', t', k3⟩ <;> cases k3
end
/-! ### The caller's view of what comes back -/
mutual
def DV.ren (σ : Nat → Option Nat) (js : List Nat) : DV → DV
  | .row n => match js[n]? with | some j => .row j | none => .junk
  | .own k o => match σ k with | some i => .own i o | none => .junk
  | .fn g cs => .fn g (renL σ js cs)
  | .agg xs => .agg (renL σ js xs)
  | .tup xs => .tup (renL σ js xs)
  | .el _ _ _ => .junk
  | .re _ _ _ => .junk
  | .rt _ _ => .junk
  | .ob _ => .junk
  | .fns xs => .fns (renL σ js xs)
  | .fp _ _ => .junk
  | .ra _ => .junk
  | .rs _ _ => .junk
  | .cs _ _ => .junk
  | p => p
def renL (σ : Nat → Option Nat) (js : List Nat) : List DV → List DV
  | [] => []
  | p :: ps => p.ren σ js :: renL σ js ps
end
mutual
/-- no slices of which it is not known that nobody writes them -/
def DV.okf (f : Bool) : DV → Bool
  | .sl _ _ => f
  | .set _ => f
  | .fn _ cs => okfL f cs
  | .agg cs => okfL f cs
  | .tup cs => okfL f cs
  | .fns cs => f && okfL f cs
  | _ => true
def okfL (f : Bool) : List DV → Bool
  | [] => true
  | p :: ps => p.okf f && okfL f ps
end
theorem renL_len (σ : Nat → Option Nat) (js : List Nat) : (ps : List DV) → (renL σ js ps).length = ps.length
  | [] => rfl
  | p :: ps => by simp only [renL, List.length_cons, renL_len σ js ps]
structure Tr (f : Bool) (σ : Nat → Option Nat) (js : List Nat) (E E' : Env) : Prop where
  sl : f = true → Later E.U E'.U E.w E'.w
  bx : ∀ k i, σ k = some i → live E.pb k → live E'.pb i ∧ E'.B i = E.B k
  row : ∀ n j e t l, js[n]? = some j → E.rw[n]? = some (.own e t l) → E'.rw[j]? = some (.own e t l) ∧ E'.A j = E.A n
mutual
theorem DV.ren_h {f : Bool} {σ : Nat → Option Nat} {js : List Nat} {E E' : Env} (s : Tr f σ js E E') : (p : DV) → p.okf f = true → {v : Value} → p.h E v → (p.ren σ js).h E' v
  | .int _ _, _, _, h => by simpa only [DV.ren, DV.h] using h
  | .bool _, _, _, h => by simpa only [DV.ren, DV.h] using h
  | .lit _, _, _, h => by simpa only [DV.ren, DV.h] using h
  | .str _, _, _, h => by simpa only [DV.ren, DV.h] using h
  | .v _, _, _, h => by simpa only [DV.ren, DV.h] using h
  | .und, _, _, h => by simpa only [DV.ren, DV.h] using h
  | .sl t l, o, _, h => by
    cases f with
    | false => simp [DV.okf] at o
    | true => simp only [DV.ren, DV.h] at h ⊢; exact (DT.slc t).mono (s.sl rfl) h
  | .set ks, o, _, h => by
    cases f with
    | false => simp [DV.okf] at o
    | true => simp only [DV.ren, DV.h] at h ⊢; exact DT.set.mono (s.sl rfl) h
  | .row n, _, v, h => by
    simp only [DV.h] at h
    obtain ⟨e, t, l, hj, rfl⟩ := h
    unfold DV.ren
    cases hn : js[n]? with
    | none => simp only [DV.h]
    | some j => obtain ⟨h1, h2⟩ := s.row n j e t l hn hj; simp only [DV.h]; exact ⟨e, t, l, h1, by rw [h2]⟩
  | .own k o, _, v, h => by
    simp only [DV.h] at h
    obtain ⟨h1, rfl⟩ := h
    unfold DV.ren
    cases hk : σ k with
    | none => simp only [DV.h]
    | some i => obtain ⟨h2, h3⟩ := s.bx k i hk h1; simp only [DV.h]; exact ⟨h2, by rw [h3]⟩
  | .fn g cs, o, v, h => by
    simp only [DV.ren, DV.h] at h ⊢
    obtain ⟨vs, rfl, h⟩ := h
    exact ⟨vs, rfl, renL_h s cs (by simpa only [DV.okf] using o) h⟩
  | .agg xs, o, v, h => by
    simp only [DV.ren, DV.h] at h ⊢
    obtain ⟨vs, rfl, h⟩ := h
    exact ⟨vs, rfl, renL_h s xs (by simpa only [DV.okf] using o) h⟩
  | .tup xs, o, v, h => by
    simp only [DV.ren, DV.h] at h ⊢
    obtain ⟨vs, rfl, h⟩ := h
    exact ⟨vs, rfl, renL_h s xs (by simpa only [DV.okf] using o) h⟩
  | .el _ _ _, _, _, _ => by simp only [DV.ren, DV.h]
  | .re _ _ _, _, _, _ => by simp only [DV.ren, DV.h]
  | .rt _ _, _, _, _ => by simp only [DV.ren, DV.h]
  | .ob _, _, _, _ => by simp only [DV.ren, DV.h]
  | .fp _ _, _, _, _ => by simp only [DV.ren, DV.h]
  | .ra _, _, _, _ => by simp only [DV.ren, DV.h]
  | .rs _ _, _, _, _ => by simp only [DV.ren, DV.h]
  | .cs _ _, _, _, _ => by simp only [DV.ren, DV.h]
  | .fns xs, o, v, h => by
    simp only [DV.okf, Bool.and_eq_true] at o
    simp only [DV.ren, DV.h] at h ⊢
    obtain ⟨ad, vs, c, rfl, h, k⟩ := h
    exact ⟨ad, vs, c, by rw [renL_len], renL_h s xs o.2 h, k.mono (s.sl o.1)⟩
  | .junk, _, _, _ => by simp only [DV.ren, DV.h]
theorem renL_h {f : Bool} {σ : Nat → Option Nat} {js : List Nat} {E E' : Env} (s : Tr f σ js E E') : (ps : List DV) → okfL f ps = true → {vs : List Value} → hL E ps vs → hL E' (renL σ js ps) vs
  | [], _, _, h => by simpa only [renL, hL] using h
  | p :: ps, o, _, h => by
    simp only [okfL, Bool.and_eq_true] at o
    simp only [hL, renL] at h ⊢
    obtain ⟨v, vs', rfl, h1, h2⟩ := h
    exact ⟨v, vs', rfl, DV.ren_h s p o.1 h1, renL_h s ps o.2 h2⟩
end
end Go.Vc

namespace Go.Vc
open Go Go.RowKit
/-! ### Data out of what a caller has -/
/-- the rows that are handed over, in order (E: the caller; m: what is left) -/
structure MI (E : Env) (m : MS) (rw0 : List DR) : Prop where
  len : m.rs.length = rw0.length
  row : ∀ (n : Nat) (r : DR), rw0[n]? = some r → (∃ j e t l, m.rs[n]? = some (some j) ∧ E.rw[j]? = some r ∧ r = .own e t l) ∨ (m.rs[n]? = some none ∧ ∃ e t, r = .own e t [])
  inj : ∀ (n n' j : Nat), m.rs[n]? = some (some j) → m.rs[n']? = some (some j) → n = n'
  left : ∀ (j : Nat), (∀ n : Nat, m.rs[n]? ≠ some (some j)) → m.rw[j]? = E.rw[j]?
  gone : ∀ (n j : Nat), m.rs[n]? = some (some j) → m.rw[j]? = some .dead
theorem MI.nil (E : Env) : MI E ⟨[], E.rw⟩ [] := ⟨rfl, fun n r h => by simp at h, fun n n' j h => by simp at h, fun _ _ => rfl, fun n j h => by simp at h⟩
theorem snoc_get {α : Type} {l : List α} {x y : α} {n : Nat} (h : (l ++ [x])[n]? = some y) : (n < l.length ∧ l[n]? = some y) ∨ (n = l.length ∧ x = y) := by
  rcases Nat.lt_or_ge n l.length with hl | hl
  · rw [List.getElem?_append_left hl] at h; exact .inl ⟨hl, h⟩
  · have := (List.getElem?_eq_some_iff.1 h).1
    simp at this
    have : n = l.length := by omega
    subst this; simp at h; exact .inr ⟨rfl, h⟩
theorem MI.take {E : Env} {m : MS} {rw0 : List DR} (h : MI E m rw0) {j : Nat} {e : TypeId} {t : DT} {l : List t.den} (hj : m.rw[j]? = some (.own e t l)) : MI E ⟨m.rs ++ [some j], m.rw.set j .dead⟩ (rw0 ++ [.own e t l]) ∧ E.rw[j]? = some (.own e t l) := by
  have hn : ∀ n : Nat, m.rs[n]? ≠ some (some j) := fun n hn => by rw [h.gone n j hn] at hj; cases hj
  have hE := (h.left j hn).symm.trans hj
  have hl := (List.getElem?_eq_some_iff.1 hj).1
  refine ⟨⟨by simp [h.len], fun n r hr => ?_, fun n n' k h1 h2 => ?_, fun k hk => ?_, fun n k hk => ?_⟩, hE⟩
  · rcases snoc_get hr with ⟨hlt, hr⟩ | ⟨rfl, rfl⟩
    · have e1 : (m.rs ++ [some j])[n]? = m.rs[n]? := List.getElem?_append_left (by rw [h.len]; exact hlt)
      simp only [e1]; exact h.row n r hr
    · exact .inl ⟨j, e, t, l, by simp [← h.len], hE, rfl⟩
  · rcases snoc_get h1 with ⟨_, h1⟩ | ⟨e1, g1⟩
    · rcases snoc_get h2 with ⟨_, h2⟩ | ⟨_, g2⟩
      · exact h.inj n n' k h1 h2
      · simp only [Option.some.injEq] at g2; subst g2; exact absurd h1 (hn n)
    · simp only [Option.some.injEq] at g1; subst g1
      rcases snoc_get h2 with ⟨_, h2⟩ | ⟨e2, _⟩
      · exact absurd h2 (hn n')
      · rw [e1, e2]
  · have hkj : k ≠ j := by rintro rfl; exact hk m.rs.length (by simp)
    show (m.rw.set j .dead)[k]? = _
    rw [List.getElem?_set, if_neg (Ne.symm hkj)]
    refine h.left k fun n hn' => hk n ?_
    show (m.rs ++ [some j])[n]? = _
    rw [List.getElem?_append_left (List.getElem?_eq_some_iff.1 hn').1]; exact hn'
  · show (m.rw.set j .dead)[k]? = _
    by_cases hkj : k = j
    · subst hkj; rw [List.getElem?_set, if_pos rfl, if_pos hl]
    · rw [List.getElem?_set, if_neg (Ne.symm hkj)]
      rcases snoc_get hk with ⟨_, hk⟩ | ⟨_, gk⟩
      · exact h.gone n k hk
      · simp only [Option.some.injEq] at gk; exact absurd gk.symm hkj
theorem MI.emp {E : Env} {m : MS} {rw0 : List DR} (h : MI E m rw0) (e : TypeId) (t : DT) : MI E ⟨m.rs ++ [none], m.rw⟩ (rw0 ++ [.own e t []]) := by
  have hs : ∀ {n j : Nat}, (m.rs ++ [none])[n]? = some (some j) → m.rs[n]? = some (some j) := fun hk => by
    rcases snoc_get hk with ⟨_, hk⟩ | ⟨_, gk⟩
    · exact hk
    · cases gk
  refine ⟨by simp [h.len], fun n r hr => ?_, fun n n' k h1 h2 => h.inj n n' k (hs h1) (hs h2), fun k hk => ?_, fun n k hk => h.gone n k (hs hk)⟩
  · rcases snoc_get hr with ⟨hlt, hr⟩ | ⟨rfl, rfl⟩
    · have e1 : (m.rs ++ [Option.none])[n]? = m.rs[n]? := List.getElem?_append_left (by rw [h.len]; exact hlt)
      simp only [e1]; exact h.row n r hr
    · exact .inr ⟨by simp [← h.len], e, t, rfl⟩
  · refine h.left k fun n hn' => hk n ?_
    show (m.rs ++ [Option.none])[n]? = _
    rw [List.getElem?_append_left (List.getElem?_eq_some_iff.1 hn').1]; exact hn'
/-- how the callee's world is the caller's -/
structure TrI (am : List (Nat × Nat)) (rs : List (Option Nat)) (E E0 : Env) : Prop where
  sl : Later E.U E0.U E.w E0.w
  bx : ∀ k i, lkA am k = some i → live E.pb i → live E0.pb k ∧ E0.B k = E.B i
  row : ∀ (n j : Nat) e t l, rs[n]? = some (some j) → E.rw[j]? = some (.own e t l) → E0.rw[n]? = some (.own e t l) ∧ E0.A n = E.A j
  nil : ∀ (n : Nat), rs[n]? = some none → (∃ e t, E0.rw[n]? = some (.own e t [])) ∧ E0.A n = (none, 0)
theorem ofA_h {E E0 : Env} (l : Later E.U E0.U E.w E0.w) : ∀ {P : DT} {ps : List DV} {x : P.den} {vs : List Value}, ofA P ps = some x → hL E ps vs → hL E0 (argVs P x) vs
  | .unit, ps, x, vs, h, hv => by
    simp only [ofA] at h
    split at h
    · simp only [argVs, hL] at hv ⊢; exact hv
    · cases h
  | .pair a b, ps, x, vs, h, hv => by
    simp only [ofA] at h
    split at h
    · split at h
      · rename_i x1 x2 h1 h2
        simp only [Option.some.injEq] at h; subst h
        simp only [hL] at hv
        obtain ⟨v, vs', rfl, h3, h4⟩ := hv
        simp only [argVs, hL]
        exact ⟨v, vs', rfl, a.val_h (DT.hv_mono l (DT.ofV_h h1 h3)), ofA_h l h2 h4⟩
      · cases h
    · cases h
  | .int _, ps, x, vs, h, _ => by simp [ofA] at h
  | .bool, ps, x, vs, h, _ => by simp [ofA] at h
  | .str, ps, x, vs, h, _ => by simp [ofA] at h
  | .slc _, ps, x, vs, h, _ => by simp [ofA] at h
theorem NK.is_s {n : NK} {y : Value} (h : n.is y = true) : y = n.val := by
  unfold NK.is at h
  split at h <;> first | rfl | cases h
mutual
theorem PK.x_s {am : List (Nat × Nat)} {E : Env} : (p : PK) → (r : DT) → (u : DV) → (m : MS) → (k : MS → Option (r.den × MS)) → (rw0 : List DR) → (z : (p.T r).den) → (mF : MS) → p.x am r u m k = some (z, mF) → MI E m rw0 →
    ∃ z0 m1 rw1, k m1 = some (z0, mF) ∧ (p.mk r z rw0).2 = (z0, rw1) ∧ MI E m1 rw1 ∧ (∃ a, m1.rs = m.rs ++ a) ∧ (∃ b, rw1 = rw0 ++ b) ∧
      ∀ E0 v, (∃ a, mF.rs = m1.rs ++ a) → TrI am mF.rs E E0 → u.h E v → (p.mk r z rw0).1.h E0 v
  | .v t, r, u, m, k, rw0, z, mF, h, hm => by
    simp only [PK.x] at h
    split at h
    · rename_i x y m1 hx hk
      simp only [Option.some.injEq, Prod.mk.injEq] at h
      obtain ⟨rfl, rfl⟩ := h
      exact ⟨y, m, rw0, hk, rfl, hm, ⟨[], by simp⟩, ⟨[], by simp⟩, fun E0 v _ s hu => t.val_h (DT.hv_mono s.sl (DT.ofV_h hx hu))⟩
    · cases h
  | .row e t, r, u, m, k, rw0, z, mF, h, hm => by
    simp only [PK.x] at h
    split at h
    · rename_i j
      split at h
      · rename_i e' t' xs hj
        rw [drV_spec] at hj
        split at h
        · rename_i hh y m1 he hs hk
          simp only [Option.some.injEq, Prod.mk.injEq] at h
          obtain ⟨rfl, rfl⟩ := h
          have he := Nat.eq_of_beq_eq_true he
          subst he hh
          obtain ⟨hm', hE⟩ := hm.take hj
          refine ⟨y, _, rw0 ++ [.own e' t' xs], hk, rfl, hm', ⟨_, rfl⟩, ⟨_, rfl⟩, fun E0 v ⟨a, ha⟩ s hu => ?_⟩
          have hn : m1.rs[rw0.length]? = some (some j) := by rw [ha]; simp [← hm.len]
          obtain ⟨g1, g2⟩ := s.row _ _ _ _ _ hn hE
          simp only [DV.h] at hu
          obtain ⟨e2, t2, l2, hj2, rfl⟩ := hu
          rw [hE] at hj2; simp only [Option.some.injEq, DR.own.injEq] at hj2
          obtain ⟨rfl, rfl, hl2⟩ := hj2
          cases hl2
          simp only [PK.mk, DV.h]
          exact ⟨_, _, _, g1, by rw [g2]⟩
        · cases h
      · cases h
    · split at h
      · rename_i y m1 hk
        simp only [Option.some.injEq, Prod.mk.injEq] at h
        obtain ⟨rfl, rfl⟩ := h
        refine ⟨y, _, rw0 ++ [.own e t []], hk, rfl, hm.emp e t, ⟨_, rfl⟩, ⟨_, rfl⟩, fun E0 v ⟨a, ha⟩ s hu => ?_⟩
        have hn : m1.rs[rw0.length]? = some none := by rw [ha]; simp [← hm.len]
        obtain ⟨⟨e1, t1, g1⟩, g2⟩ := s.nil _ hn
        simp only [DV.h] at hu
        subst hu
        simp only [PK.mk, DV.h]
        exact ⟨_, _, _, g1, by rw [g2]; rfl⟩
      · cases h
    · cases h
  | .ptr n, r, u, m, k, rw0, z, mF, h, hm => by
    simp only [PK.x] at h
    split at h
    · rename_i i o
      split at h
      · rename_i i' hl
        split at h
        · rename_i hb
          have hb := Nat.eq_of_beq_eq_true hb
          subst hb
          refine ⟨z, m, rw0, h, rfl, hm, ⟨[], by simp⟩, ⟨[], by simp⟩, fun E0 v _ s hu => ?_⟩
          simp only [DV.h] at hu
          obtain ⟨g1, rfl⟩ := hu
          obtain ⟨g2, g3⟩ := s.bx _ _ hl g1
          simp only [PK.mk, DV.h]
          exact ⟨g2, by rw [g3]⟩
        · cases h
      · cases h
    · cases h
  | .fn g l, r, u, m, k, rw0, z, mF, h, hm => by
    simp only [PK.x] at h
    split at h
    · rename_i g' cs
      split at h
      · rename_i hg
        have hg := Nat.eq_of_beq_eq_true hg
        subst hg
        obtain ⟨z0, m1, rw1, h1, h2, h3, h4, h5, h6⟩ := pkX_s l r cs m k rw0 z mF h hm
        refine ⟨z0, m1, rw1, h1, by simp only [PK.mk]; exact h2, h3, h4, h5, fun E0 v ha s hu => ?_⟩
        simp only [DV.h] at hu
        obtain ⟨vs, rfl, hu⟩ := hu
        simp only [PK.mk, DV.h]
        exact ⟨vs, rfl, h6 E0 _ ha s hu⟩
      · cases h
    · cases h
  | .agg l, r, u, m, k, rw0, z, mF, h, hm => by
    simp only [PK.x] at h
    split at h
    · rename_i cs
      obtain ⟨z0, m1, rw1, h1, h2, h3, h4, h5, h6⟩ := pkX_s l r cs m k rw0 z mF h hm
      refine ⟨z0, m1, rw1, h1, by simp only [PK.mk]; exact h2, h3, h4, h5, fun E0 v ha s hu => ?_⟩
      simp only [DV.h] at hu
      obtain ⟨vs, rfl, hu⟩ := hu
      simp only [PK.mk, DV.h]
      exact ⟨vs, rfl, h6 E0 _ ha s hu⟩
    · cases h
  | .fns l, r, u, m, k, rw0, z, mF, h, hm => by
    simp only [PK.x] at h
    split at h
    · rename_i cs
      obtain ⟨z0, m1, rw1, h1, h2, h3, h4, h5, h6⟩ := pkX_s l r cs m k rw0 z mF h hm
      refine ⟨z0, m1, rw1, h1, by simp only [PK.mk]; exact h2, h3, h4, h5, fun E0 v ha s hu => ?_⟩
      simp only [DV.h] at hu
      obtain ⟨ad, vs, c, rfl, hu, hk⟩ := hu
      have hh := h6 E0 _ ha s hu
      simp only [PK.mk, DV.h]
      exact ⟨ad, vs, c, by rw [← hL_len hu, hL_len hh], hh, hk.mono s.sl⟩
    · cases h
  | .nil n, r, u, m, k, rw0, z, mF, h, hm => by
    simp only [PK.x] at h
    split at h
    · rename_i y
      split at h
      · rename_i hb
        refine ⟨z, m, rw0, h, rfl, hm, ⟨[], by simp⟩, ⟨[], by simp⟩, fun E0 v _ s hu => ?_⟩
        simp only [DV.h] at hu
        subst hu
        simp only [PK.mk, DV.h]
        exact NK.is_s hb
      · cases h
    · cases h
theorem pkX_s {am : List (Nat × Nat)} {E : Env} : (l : List PK) → (r : DT) → (us : List DV) → (m : MS) → (k : MS → Option (r.den × MS)) → (rw0 : List DR) → (z : (pkT l r).den) → (mF : MS) → pkX am l r us m k = some (z, mF) → MI E m rw0 →
    ∃ z0 m1 rw1, k m1 = some (z0, mF) ∧ (pkM l r z rw0).2 = (z0, rw1) ∧ MI E m1 rw1 ∧ (∃ a, m1.rs = m.rs ++ a) ∧ (∃ b, rw1 = rw0 ++ b) ∧
      ∀ E0 vs, (∃ a, mF.rs = m1.rs ++ a) → TrI am mF.rs E E0 → hL E us vs → hL E0 (pkM l r z rw0).1 vs
  | [], r, us, m, k, rw0, z, mF, h, hm => by
    simp only [pkX] at h
    split at h
    · exact ⟨z, m, rw0, h, rfl, hm, ⟨[], by simp⟩, ⟨[], by simp⟩, fun E0 vs _ _ hu => by simpa only [pkM, hL] using hu⟩
    · cases h
  | p :: l, r, us, m, k, rw0, z, mF, h, hm => by
    simp only [pkX] at h
    split at h
    · rename_i u us
      obtain ⟨z0, m1, rw1, h1, h2, h3, ⟨a1, h4⟩, ⟨b1, h5⟩, h6⟩ := PK.x_s p (pkT l r) u m _ rw0 z mF h hm
      obtain ⟨z2, m2, rw2, g1, g2, g3, ⟨a2, g4⟩, ⟨b2, g5⟩, g6⟩ := pkX_s l r us m1 k rw1 z0 mF h1 h3
      have e1 : (p.mk (pkT l r) z rw0) = ((p.mk (pkT l r) z rw0).1, z0, rw1) := by rw [← h2]
      refine ⟨z2, m2, rw2, g1, ?_, g3, ⟨a1 ++ a2, by rw [g4, h4, List.append_assoc]⟩, ⟨b1 ++ b2, by rw [g5, h5, List.append_assoc]⟩, fun E0 vs ⟨a, ha⟩ s hu => ?_⟩
      · simp only [pkM]; rw [e1]; simp only [g2]
      · simp only [hL] at hu
        obtain ⟨v, vs', rfl, hu1, hu2⟩ := hu
        simp only [pkM]; rw [e1]; simp only [hL]
        exact ⟨v, vs', rfl, h6 E0 v ⟨a2 ++ a, by rw [ha, g4, List.append_assoc]⟩ s hu1, g6 E0 vs' ⟨a, ha⟩ s hu2⟩
    · cases h
end
theorem bkX_s {am : List (Nat × Nat)} {E : Env} : (l : List BK) → (n : Nat) → (r : DT) → (m : MS) → (k : MS → Option (r.den × MS)) → (rw0 : List DR) → (z : (bkT l r).den) → (mF : MS) → bkX am E.pb l n r m k = some (z, mF) → MI E m rw0 →
    ∃ z0 m1 rw1, k m1 = some (z0, mF) ∧ (bkM l r z rw0).2 = (z0, rw1) ∧ MI E m1 rw1 ∧ (∃ a, m1.rs = m.rs ++ a) ∧ (∃ b, rw1 = rw0 ++ b) ∧ (bkM l r z rw0).1.length = l.length ∧
      (∀ (q : Nat) (b0 : DB), (bkM l r z rw0).1[q]? = some (some b0) → ∃ i b, lkA am (n + q) = some i ∧ E.pb[i]? = some (some b) ∧ b0.ty = b.ty ∧ b0.w = true ∧
        ∀ E0, (∃ a, mF.rs = m1.rs ++ a) → TrI am mF.rs E E0 → ∀ vs, hL E b.cells vs → hL E0 b0.cells vs) ∧
      (∀ q : Nat, q < l.length → ∃ b0, (bkM l r z rw0).1[q]? = some (some b0))
  | [], n, r, m, k, rw0, z, mF, h, hm => ⟨z, m, rw0, h, rfl, hm, ⟨[], by simp⟩, ⟨[], by simp⟩, rfl, by simp [bkM], by simp⟩
  | Bk :: l, n, r, m, k, rw0, z, mF, h, hm => by
    simp only [bkX] at h
    split at h
    · rename_i i hi
      split at h
      · rename_i b hb
        rw [dbV_spec] at hb
        split at h
        · rename_i hty
          have hty := Nat.eq_of_beq_eq_true hty
          obtain ⟨z0, m1, rw1, h1, h2, h3, ⟨a1, h4⟩, ⟨b1, h5⟩, h6⟩ := pkX_s Bk.cells (bkT l r) b.cells m _ rw0 z mF h hm
          obtain ⟨z2, m2, rw2, g1, g2, g3, ⟨a2, g4⟩, ⟨b2, g5⟩, g6, g7, g8⟩ := bkX_s l (n + 1) r m1 k rw1 z0 mF h1 h3
          have e1 : (pkM Bk.cells (bkT l r) z rw0) = ((pkM Bk.cells (bkT l r) z rw0).1, z0, rw1) := by rw [← h2]
          have e2 : bkM (Bk :: l) r z rw0 = (some ⟨Bk.ty, (pkM Bk.cells (bkT l r) z rw0).1, true⟩ :: (bkM l r z0 rw1).1, z2, rw2) := by
            simp only [bkM]; rw [e1]; simp only [g2]
          rw [e2]
          refine ⟨z2, m2, rw2, g1, rfl, g3, ⟨a1 ++ a2, by rw [g4, h4, List.append_assoc]⟩, ⟨b1 ++ b2, by rw [g5, h5, List.append_assoc]⟩, by simp [g6], fun q b0 hq => ?_, fun q hq => ?_⟩
          · cases q with
            | zero =>
              simp only [List.getElem?_cons_zero, Option.some.injEq] at hq; subst hq
              exact ⟨i, b, hi, hb, hty.symm, rfl, fun E0 ⟨a, ha⟩ s vs hv => h6 E0 vs ⟨a2 ++ a, by rw [ha, g4, List.append_assoc]⟩ s hv⟩
            | succ q =>
              obtain ⟨i', b', k1, k2, k3, k4, k5⟩ := g7 q b0 (by simpa using hq)
              exact ⟨i', b', by rw [show n + (q + 1) = n + 1 + q by omega]; exact k1, k2, k3, k4, k5⟩
          · cases q with
            | zero => exact ⟨_, rfl⟩
            | succ q => simpa using g8 q (by simpa using hq)
        · cases h
      · cases h
    · cases h
end Go.Vc

namespace Go.Vc
open Go Go.RowKit
/-! ### What comes back -/
def Pre (a b : List Nat) : Prop := ∃ c, b = a ++ c
theorem Pre.refl (a : List Nat) : Pre a a := ⟨[], by simp⟩
theorem Pre.trans {a b c : List Nat} (h : Pre a b) (k : Pre b c) : Pre a c := by obtain ⟨x, rfl⟩ := h; obtain ⟨y, rfl⟩ := k; exact ⟨x ++ y, by simp⟩
theorem Pre.get {a b : List Nat} (h : Pre a b) {n j : Nat} (hn : a[n]? = some j) : b[n]? = some j := by
  obtain ⟨c, rfl⟩ := h
  rw [List.getElem?_append_left (List.getElem?_eq_some_iff.1 hn).1]; exact hn
/-- rows that came back (rwE, for the callee; js: where each stands for the caller) -/
structure RO (base rwE : List DR) (ρ : List (Option Nat)) (rwC : List DR) (js : List Nat) : Prop where
  len : js.length = rwE.length
  row : ∀ (n j : Nat) (r : DR), js[n]? = some j → rwE[n]? = some r → rwC[j]? = some r
  inj : ∀ (n n' j : Nat), js[n]? = some j → js[n']? = some j → n = n'
  sup : ∀ (a j : Nat), ρ[a]? = some (some j) → rwC[j]? = some .dead ∧ base[j]? = some .dead ∧ ∀ n : Nat, js[n]? ≠ some j
  supn : ∀ (a b j : Nat), ρ[a]? = some (some j) → ρ[b]? = some (some j) → a = b
  old : ∀ j : Nat, (∀ n : Nat, js[n]? ≠ some j) → rwC[j]? = base[j]?
  new : ∀ (n j : Nat), js[n]? = some j → base[j]? = some .dead ∨ base[j]? = none
  own : ∀ (n : Nat) (r : DR), rwE[n]? = some r → ∃ e t l, r = .own e t l
theorem RO.tail {base rwE : List DR} {x : Option Nat} {ρ : List (Option Nat)} {rwC : List DR} {js : List Nat} (h : RO base rwE (x :: ρ) rwC js) : RO base rwE ρ rwC js :=
  ⟨h.len, h.row, h.inj, fun a j ha => h.sup (a + 1) j (by simpa using ha), fun a b j ha hb => by have := h.supn (a + 1) (b + 1) j (by simpa using ha) (by simpa using hb); omega, h.old, h.new, h.own⟩
theorem RO.lt {base rwE : List DR} {ρ : List (Option Nat)} {rwC : List DR} {js : List Nat} (h : RO base rwE ρ rwC js) {n j : Nat} (hn : js[n]? = some j) : j < rwC.length := by
  have hl := (List.getElem?_eq_some_iff.1 hn).1
  rw [h.len] at hl
  exact (List.getElem?_eq_some_iff.1 (h.row n j _ hn (List.getElem?_eq_getElem hl))).1
theorem RO.put {base rwE : List DR} {ρ : List (Option Nat)} {rwC rwC' : List DR} {js : List Nat} (h : RO base rwE ρ rwC js) {j : Nat} {e : TypeId} {t : DT} {l : List t.den} (hn : ∀ n : Nat, js[n]? ≠ some j) (hj : rwC'[j]? = some (.own e t l)) (ho : ∀ k : Nat, k ≠ j → rwC'[k]? = rwC[k]?)
    (hb : base[j]? = some .dead ∨ base[j]? = none) (hs : ∀ a : Nat, ρ[a]? ≠ some (some j)) : RO base (rwE ++ [.own e t l]) ρ rwC' (js ++ [j]) := by
  have ne : ∀ {n k : Nat}, js[n]? = some k → k ≠ j := fun hk => by rintro rfl; exact hn _ hk
  refine ⟨by simp [h.len], fun n k r h1 h2 => ?_, fun n n' k h1 h2 => ?_, fun a k ha => ?_, h.supn, fun k hk => ?_, fun n k h1 => ?_, fun n r h1 => ?_⟩
  · rcases snoc_get h1 with ⟨g0, g1⟩ | ⟨g0, g1⟩
    · rcases snoc_get h2 with ⟨_, g2⟩ | ⟨g2, _⟩
      · rw [ho k (ne g1)]; exact h.row n k r g1 g2
      · have := h.len; omega
    · rcases snoc_get h2 with ⟨g2, _⟩ | ⟨_, g2⟩
      · have := h.len; omega
      · subst g1 g2; exact hj
  · rcases snoc_get h1 with ⟨_, g1⟩ | ⟨g0, g1⟩
    · rcases snoc_get h2 with ⟨_, g2⟩ | ⟨_, g2⟩
      · exact h.inj n n' k g1 g2
      · exact absurd g2.symm (ne g1)
    · rcases snoc_get h2 with ⟨_, g2⟩ | ⟨g3, _⟩
      · exact absurd g1.symm (ne g2)
      · omega
  · obtain ⟨g1, g2, g3⟩ := h.sup a k ha
    have hkj : k ≠ j := by rintro rfl; exact hs a ha
    refine ⟨by rw [ho k hkj]; exact g1, g2, fun n hk => ?_⟩
    rcases snoc_get hk with ⟨_, g⟩ | ⟨_, g⟩
    · exact g3 n g
    · exact hkj g.symm
  · have hkj : k ≠ j := by rintro rfl; exact hk js.length (by simp)
    rw [ho k hkj]
    refine h.old k fun n hk' => hk n ?_
    rw [List.getElem?_append_left (List.getElem?_eq_some_iff.1 hk').1]; exact hk'
  · rcases snoc_get h1 with ⟨_, g⟩ | ⟨_, g⟩
    · exact h.new n k g
    · subst g; exact hb
  · rcases snoc_get h1 with ⟨_, g⟩ | ⟨_, g⟩
    · exact h.own n r g
    · exact ⟨e, t, l, g.symm⟩
section
variable {β : Type} {q : β} {σ : Nat → Option Nat} {base : List DR}
theorem rowO_s {ρ : List (Option Nat)} {e : TypeId} {t : DT} {l : List t.den} {rwC rwE : List DR} {js : List Nat} {K : DV → List (Option Nat) → List DR → Option β} (h : rowO ρ e t l rwC K = some q) (ro : RO base rwE ρ rwC js) :
    ∃ j ρ' rwC', K (.row j) ρ' rwC' = some q ∧ RO base (rwE ++ [.own e t l]) ρ' rwC' (js ++ [j]) := by
  have push : ∀ ρ', RO base rwE ρ' rwC js → K (.row rwC.length) ρ' (rwC ++ [.own e t l]) = some q → ∃ j ρ' rwC', K (.row j) ρ' rwC' = some q ∧ RO base (rwE ++ [.own e t l]) ρ' rwC' (js ++ [j]) := fun ρ' ro h => by
    have hn : ∀ n : Nat, js[n]? ≠ some rwC.length := fun n hn => by have := ro.lt hn; omega
    refine ⟨_, ρ', _, h, ro.put hn (by simp) (fun k hk => ?_) (.inr ?_) fun a ha => ?_⟩
    · rcases Nat.lt_or_ge k rwC.length with hl | hl
      · rw [List.getElem?_append_left hl]
      · rw [List.getElem?_eq_none (by simp; omega), List.getElem?_eq_none hl]
    · rw [← ro.old _ hn, List.getElem?_eq_none (Nat.le_refl _)]
    · have := (ro.sup a _ ha).1; rw [List.getElem?_eq_none (Nat.le_refl _)] at this; cases this
  unfold rowO at h
  split at h
  · rename_i j ρ'
    rw [setE_eq] at h
    obtain ⟨g1, g2, g3⟩ := ro.sup 0 j rfl
    have hl := (List.getElem?_eq_some_iff.1 g1).1
    refine ⟨j, ρ', _, h, ro.tail.put g3 (by rw [List.getElem?_set, if_pos rfl, if_pos hl]) (fun k hk => by rw [List.getElem?_set, if_neg (Ne.symm hk)]) (.inl g2) fun a ha => ?_⟩
    have := ro.supn 0 (a + 1) j rfl (by simpa using ha)
    omega
  · rename_i ρ'
    rw [pushE_eq, litE_eq] at h
    exact push _ ro.tail h
  · rw [pushE_eq, litE_eq] at h
    exact push _ ro h
theorem cells_ren (js : List Nat) : (t : DT) → (x : t.den) → (r : List DV) → renL σ js (t.cells x r) = t.cells x (renL σ js r)
  | .int _, _, _ | .bool, _, _ | .str, _, _ | .slc _, _, _ | .set, _, _ | .unit, _, _ => rfl
  | .pair a b, x, r => by simp only [DT.cells]; rw [cells_ren js a, cells_ren js b]
theorem val_ren (js : List Nat) : (t : DT) → (x : t.den) → (t.val x).ren σ js = t.val x
  | .int _, _ | .bool, _ | .str, _ | .slc _, _ | .set, _ | .unit, _ => rfl
  | .pair a b, x => by simp only [DT.val, DV.ren]; rw [cells_ren js a, cells_ren js b]; rfl
theorem ren_row {js : List Nat} {n j : Nat} (h : js[n]? = some j) : (DV.row n).ren σ js = .row j := by simp only [DV.ren, h]
mutual
theorem PK.o_s : (p : PK) → (r : DT) → (z : (p.T r).den) → (ρ : List (Option Nat)) → (rwC : List DR) → (K : DV → r.den → List (Option Nat) → List DR → Option β) → (rwE : List DR) → (js : List Nat) → p.o σ r z ρ rwC K = some q → RO base rwE ρ rwC js →
    ∃ d ρ' rwC' js', K d (p.mk r z rwE).2.1 ρ' rwC' = some q ∧ RO base (p.mk r z rwE).2.2 ρ' rwC' js' ∧ Pre js js' ∧ ∀ jsF, Pre js' jsF → d = (p.mk r z rwE).1.ren σ jsF
  | .v t, r, z, ρ, rwC, K, rwE, js, h, ro => ⟨_, ρ, rwC, js, h, ro, Pre.refl _, fun jsF _ => (val_ren jsF t z.1).symm⟩
  | .row e t, r, z, ρ, rwC, K, rwE, js, h, ro => by
    simp only [PK.o] at h
    obtain ⟨j, ρ', rwC', h1, h2⟩ := rowO_s h ro
    exact ⟨_, ρ', rwC', _, h1, h2, ⟨[j], rfl⟩, fun jsF hp => (ren_row (hp.get (by rw [← ro.len]; simp))).symm⟩
  | .ptr k, r, z, ρ, rwC, K, rwE, js, h, ro => by
    simp only [PK.o] at h
    split at h
    · rename_i i hi
      exact ⟨_, ρ, rwC, js, h, ro, Pre.refl _, fun jsF _ => by simp only [PK.mk, DV.ren, hi]⟩
    · cases h
  | .fn g l, r, z, ρ, rwC, K, rwE, js, h, ro => by
    simp only [PK.o] at h
    obtain ⟨ds, ρ', rwC', js', h1, h2, h3, h4⟩ := pkO_s l r z ρ rwC _ rwE js h ro
    exact ⟨_, ρ', rwC', js', h1, h2, h3, fun jsF hp => by simp only [PK.mk, DV.ren]; rw [h4 jsF hp]⟩
  | .agg l, r, z, ρ, rwC, K, rwE, js, h, ro => by
    simp only [PK.o] at h
    obtain ⟨ds, ρ', rwC', js', h1, h2, h3, h4⟩ := pkO_s l r z ρ rwC _ rwE js h ro
    exact ⟨_, ρ', rwC', js', h1, h2, h3, fun jsF hp => by simp only [PK.mk, DV.ren]; rw [h4 jsF hp]⟩
  | .fns l, r, z, ρ, rwC, K, rwE, js, h, ro => by
    simp only [PK.o] at h
    obtain ⟨ds, ρ', rwC', js', h1, h2, h3, h4⟩ := pkO_s l r z ρ rwC _ rwE js h ro
    exact ⟨_, ρ', rwC', js', h1, h2, h3, fun jsF hp => by simp only [PK.mk, DV.ren]; rw [h4 jsF hp]⟩
  | .nil n, r, z, ρ, rwC, K, rwE, js, h, ro => ⟨_, ρ, rwC, js, h, ro, Pre.refl _, fun jsF _ => rfl⟩
theorem pkO_s : (l : List PK) → (r : DT) → (z : (pkT l r).den) → (ρ : List (Option Nat)) → (rwC : List DR) → (K : List DV → r.den → List (Option Nat) → List DR → Option β) → (rwE : List DR) → (js : List Nat) → pkO σ l r z ρ rwC K = some q → RO base rwE ρ rwC js →
    ∃ ds ρ' rwC' js', K ds (pkM l r z rwE).2.1 ρ' rwC' = some q ∧ RO base (pkM l r z rwE).2.2 ρ' rwC' js' ∧ Pre js js' ∧ ∀ jsF, Pre js' jsF → ds = renL σ jsF (pkM l r z rwE).1
  | [], r, z, ρ, rwC, K, rwE, js, h, ro => ⟨[], ρ, rwC, js, h, ro, Pre.refl _, fun _ _ => rfl⟩
  | p :: l, r, z, ρ, rwC, K, rwE, js, h, ro => by
    simp only [pkO] at h
    obtain ⟨d, ρ1, rwC1, js1, h1, h2, h3, h4⟩ := PK.o_s p (pkT l r) z ρ rwC _ rwE js h ro
    obtain ⟨ds, ρ2, rwC2, js2, g1, g2, g3, g4⟩ := pkO_s l r _ ρ1 rwC1 _ _ js1 h1 h2
    exact ⟨d :: ds, ρ2, rwC2, js2, g1, g2, h3.trans g3, fun jsF hp => by simp only [pkM, renL]; rw [← h4 jsF (g3.trans hp), ← g4 jsF hp]⟩
end
mutual
theorem QT.o_s : (Q : QT) → (x : Q.den) → (ρ : List (Option Nat)) → (rwC : List DR) → (K : DV → List (Option Nat) → List DR → Option β) → (rwE : List DR) → (js : List Nat) → Q.o σ x ρ rwC K = some q → RO base rwE ρ rwC js →
    ∃ d ρ' rwC' js', K d ρ' rwC' = some q ∧ RO base (Q.mk x rwE).2 ρ' rwC' js' ∧ Pre js js' ∧ ∀ jsF, Pre js' jsF → d = (Q.mk x rwE).1.ren σ jsF
  | .v t, x, ρ, rwC, K, rwE, js, h, ro => ⟨_, ρ, rwC, js, h, ro, Pre.refl _, fun jsF _ => (val_ren jsF t x).symm⟩
  | .own e t, x, ρ, rwC, K, rwE, js, h, ro => by
    simp only [QT.o] at h
    obtain ⟨j, ρ', rwC', h1, h2⟩ := rowO_s h ro
    exact ⟨_, ρ', rwC', _, h1, h2, ⟨[j], rfl⟩, fun jsF hp => (ren_row (hp.get (by rw [← ro.len]; simp))).symm⟩
  | .ptr k, x, ρ, rwC, K, rwE, js, h, ro => by
    simp only [QT.o] at h
    split at h
    · rename_i i hi
      exact ⟨_, ρ, rwC, js, h, ro, Pre.refl _, fun jsF _ => by simp only [QT.mk, DV.ren, hi]⟩
    · cases h
  | .nil n, x, ρ, rwC, K, rwE, js, h, ro => ⟨_, ρ, rwC, js, h, ro, Pre.refl _, fun jsF _ => rfl⟩
  | .unit, x, ρ, rwC, K, rwE, js, h, ro => ⟨_, ρ, rwC, js, h, ro, Pre.refl _, fun jsF _ => rfl⟩
  | .pair a b, x, ρ, rwC, K, rwE, js, h, ro => by
    simp only [QT.o] at h
    obtain ⟨d, ρ1, rwC1, js1, h1, h2, h3, h4⟩ := QT.o_s a x.1 ρ rwC _ rwE js h ro
    obtain ⟨ds, ρ2, rwC2, js2, g1, g2, g3, g4⟩ := QT.os_s b x.2 ρ1 rwC1 _ _ js1 h1 h2
    exact ⟨_, ρ2, rwC2, js2, g1, g2, h3.trans g3, fun jsF hp => by simp only [QT.mk, DV.ren, renL]; rw [← h4 jsF (g3.trans hp), ← g4 jsF hp]⟩
theorem QT.os_s : (Q : QT) → (x : Q.den) → (ρ : List (Option Nat)) → (rwC : List DR) → (K : List DV → List (Option Nat) → List DR → Option β) → (rwE : List DR) → (js : List Nat) → Q.os σ x ρ rwC K = some q → RO base rwE ρ rwC js →
    ∃ ds ρ' rwC' js', K ds ρ' rwC' = some q ∧ RO base (Q.mks x rwE).2 ρ' rwC' js' ∧ Pre js js' ∧ ∀ jsF, Pre js' jsF → ds = renL σ jsF (Q.mks x rwE).1
  | .v t, x, ρ, rwC, K, rwE, js, h, ro => ⟨_, ρ, rwC, js, h, ro, Pre.refl _, fun jsF _ => rfl⟩
  | .own e t, x, ρ, rwC, K, rwE, js, h, ro => ⟨_, ρ, rwC, js, h, ro, Pre.refl _, fun jsF _ => rfl⟩
  | .ptr k, x, ρ, rwC, K, rwE, js, h, ro => ⟨_, ρ, rwC, js, h, ro, Pre.refl _, fun jsF _ => rfl⟩
  | .nil n, x, ρ, rwC, K, rwE, js, h, ro => ⟨_, ρ, rwC, js, h, ro, Pre.refl _, fun jsF _ => rfl⟩
  | .unit, x, ρ, rwC, K, rwE, js, h, ro => ⟨_, ρ, rwC, js, h, ro, Pre.refl _, fun jsF _ => rfl⟩
  | .pair a b, x, ρ, rwC, K, rwE, js, h, ro => by
    simp only [QT.os] at h
    obtain ⟨d, ρ1, rwC1, js1, h1, h2, h3, h4⟩ := QT.o_s a x.1 ρ rwC _ rwE js h ro
    obtain ⟨ds, ρ2, rwC2, js2, g1, g2, g3, g4⟩ := QT.os_s b x.2 ρ1 rwC1 _ _ js1 h1 h2
    exact ⟨_, ρ2, rwC2, js2, g1, g2, h3.trans g3, fun jsF hp => by simp only [QT.mks, renL]; rw [← h4 jsF (g3.trans hp), ← g4 jsF hp]⟩
end
/-- boxes: where each stands for the caller -/
theorem bkO_s {m : Nat} (hσ : ∀ (k k' i : Nat), σ k = some i → σ k' = some i → k = k') : (l : List BK) → (n : Nat) → (r : DT) → (z : (bkT l r).den) → (ρ : List (Option Nat)) → (pb : DBs) → (rwC : List DR) → (K : r.den → List (Option Nat) → DBs → List DR → Option β) → (rwE : List DR) → (js : List Nat) →
    bkO σ m l n r z ρ pb rwC K = some q → RO base rwE ρ rwC js → (∀ k i, k < m → σ k = some i → i < pb.length) → (∀ k, m ≤ k → n ≤ k → σ k = some (pb.length + (k - max n m))) →
    ∃ ρ' pb' rwC' js', K (bkM l r z rwE).2.1 ρ' pb' rwC' = some q ∧ RO base (bkM l r z rwE).2.2 ρ' rwC' js' ∧ Pre js js' ∧
      (∀ i, i < pb.length → (∀ k, n ≤ k → k < m → σ k ≠ some i) → pb'[i]? = pb[i]?) ∧
      (∀ k b1 i, (bkM l r z rwE).1[k]? = some (some b1) → σ (n + k) = some i → ∀ jsF, Pre js' jsF → pb'[i]? = some (some ⟨b1.ty, renL σ jsF b1.cells, true⟩)) ∧
      (∀ i, i < pb'.length → i < pb.length ∨ ∃ k, k < l.length ∧ m ≤ n + k ∧ σ (n + k) = some i) ∧ (∀ i, i < pb.length → live pb i → live pb' i) ∧ (∀ k i, n ≤ k → k < n + l.length → k < m → σ k = some i → live pb' i)
  | [], n, r, z, ρ, pb, rwC, K, rwE, js, h, ro, h1, h2 => ⟨ρ, pb, rwC, js, h, ro, Pre.refl _, fun _ _ _ => rfl, fun k b1 i hk => by simp [bkM] at hk, fun i hi => .inl hi, fun _ _ h => h, fun k i a b => by simp at b; omega⟩
  | Bk :: l, n, r, z, ρ, pb, rwC, K, rwE, js, h, ro, h1, h2 => by
    simp only [bkO] at h
    obtain ⟨ds, ρ1, rwC1, js1, h3, h4, h5, h6⟩ := pkO_s Bk.cells (bkT l r) z ρ rwC _ rwE js h ro
    have e2 : bkM (Bk :: l) r z rwE = (some ⟨Bk.ty, (pkM Bk.cells (bkT l r) z rwE).1, true⟩ :: (bkM l r (pkM Bk.cells (bkT l r) z rwE).2.1 (pkM Bk.cells (bkT l r) z rwE).2.2).1, (bkM l r (pkM Bk.cells (bkT l r) z rwE).2.1 (pkM Bk.cells (bkT l r) z rwE).2.2).2.1, (bkM l r (pkM Bk.cells (bkT l r) z rwE).2.1 (pkM Bk.cells (bkT l r) z rwE).2.2).2.2) := rfl
    rw [e2]
    split at h3
    · rename_i hnm
      have hnm := Nat.le_of_ble_eq_true hnm
      split at h3
      · rename_i i hi
        rw [setE_eq] at h3
        have hil := h1 n i (by omega) hi
        obtain ⟨ρ2, pb2, rwC2, js2, g1, g2, g3, g4, g5, g6, g7, g8⟩ := bkO_s hσ l (n + 1) r _ ρ1 _ rwC1 K _ js1 h3 h4 (fun k i' hk hk' => by simpa using h1 k i' hk hk') (fun k hk hk' => by rw [h2 k hk (by omega)]; simp; omega)
        refine ⟨ρ2, pb2, rwC2, js2, g1, g2, h5.trans g3, fun i' hi' hno => ?_, fun k b1 i' hk hk' jsF hp => ?_, fun i' hi' => ?_, fun i' hi' hl => ?_, fun k i' ha hb hm hk => ?_⟩
        · rw [g4 i' (by simpa using hi') fun k hk hk' => hno k (by omega) hk', List.getElem?_set, if_neg]
          rintro rfl; exact hno n (Nat.le_refl _) (by omega) hi
        · cases k with
          | zero =>
            simp only [List.getElem?_cons_zero, Option.some.injEq] at hk; subst hk
            rw [Nat.add_zero, hi] at hk'; simp only [Option.some.injEq] at hk'; subst hk'
            rw [g4 i (by simpa using hil) fun k hk hk' hk2 => by have := hσ _ _ _ hk2 hi; omega, List.getElem?_set, if_pos rfl, if_pos hil, h6 jsF (g3.trans hp)]
          | succ k => exact g5 k b1 i' (by simpa using hk) (by rw [show n + 1 + k = n + (k + 1) by omega]; exact hk') jsF hp
        · rcases g6 i' hi' with h' | ⟨k, k1, k2, k3⟩
          · exact .inl (by simpa using h')
          · exact .inr ⟨k + 1, by simp; omega, by omega, by rw [show n + (k + 1) = n + 1 + k by omega]; exact k3⟩
        · refine g7 i' (by simpa using hi') ?_
          obtain ⟨b, hb⟩ := hl
          unfold live
          rw [List.getElem?_set]; split
          · rename_i e; subst e; exact ⟨_, rfl⟩
          · exact ⟨b, hb⟩
        · by_cases hkn : k = n
          · subst hkn
            rw [hi] at hk; simp only [Option.some.injEq] at hk; subst hk
            refine g7 i (by simpa using hil) ?_
            unfold live
            rw [List.getElem?_set, if_pos rfl, if_pos hil]; exact ⟨_, rfl⟩
          · exact g8 k i' (by omega) (by simp at hb; omega) hm hk
      · cases h3
    · rename_i hnm
      have hnm : m ≤ n := by
        rcases Nat.lt_or_ge n m with h' | h'
        · have := Nat.ble_eq_true_of_le h'; simp only [Nat.blt] at hnm; rw [this] at hnm; cases hnm
        · exact h'
      rw [pushE_eq] at h3
      have hsn : σ n = some pb.length := by have := h2 n hnm (Nat.le_refl _); rw [Nat.max_eq_left hnm] at this; simpa using this
      obtain ⟨ρ2, pb2, rwC2, js2, g1, g2, g3, g4, g5, g6, g7, g8⟩ := bkO_s hσ l (n + 1) r _ ρ1 _ rwC1 K _ js1 h3 h4 (fun k i' hk hk' => by have := h1 k i' hk hk'; simp; omega) (fun k hk hk' => by rw [h2 k hk (by omega)]; simp; omega)
      refine ⟨ρ2, pb2, rwC2, js2, g1, g2, h5.trans g3, fun i' hi' hno => ?_, fun k b1 i' hk hk' jsF hp => ?_, fun i' hi' => ?_, fun i' hi' hl => ?_, fun k i' ha hb hm hk => by omega⟩
      · rw [g4 i' (by simp; omega) fun k hk hk' => by omega, List.getElem?_append_left hi']
      · cases k with
        | zero =>
          simp only [List.getElem?_cons_zero, Option.some.injEq] at hk; subst hk
          rw [Nat.add_zero, hsn] at hk'; simp only [Option.some.injEq] at hk'; subst hk'
          rw [g4 pb.length (by simp) fun k hk hk' => by omega, h6 jsF (g3.trans hp)]; simp
        | succ k => exact g5 k b1 i' (by simpa using hk) (by rw [show n + 1 + k = n + (k + 1) by omega]; exact hk') jsF hp
      · rcases g6 i' hi' with h' | ⟨k, k1, k2, k3⟩
        · rcases Nat.lt_or_ge i' pb.length with hl | hl
          · exact .inl hl
          · have : i' = pb.length := by simp at h'; omega
            subst this
            exact .inr ⟨0, by simp, by omega, by simpa using hsn⟩
        · exact .inr ⟨k + 1, by simp; omega, by omega, by rw [show n + (k + 1) = n + 1 + k by omega]; exact k3⟩
      · refine g7 i' (by simp; omega) ?_
        obtain ⟨b, hb⟩ := hl
        exact ⟨b, by rw [List.getElem?_append_left hi']; exact hb⟩
end
end Go.Vc

namespace Go.Vc
open Go Go.RowKit
/-! ### Behind a call -/
mutual
theorem DV.okf_true : (p : DV) → p.okf true = true
  | .fn _ cs => by simp only [DV.okf]; exact okfL_true cs
  | .agg cs => by simp only [DV.okf]; exact okfL_true cs
  | .tup cs => by simp only [DV.okf]; exact okfL_true cs
  | .fns cs => by simp only [DV.okf, Bool.true_and]; exact okfL_true cs
  | .sl _ _ | .cs _ _ | .set _ | .int _ _ | .bool _ | .lit _ | .str _ | .v _ | .und | .row _ | .el _ _ _ | .re _ _ _ | .rt _ _ | .ob _ | .own _ _ | .fp _ _ | .ra _ | .rs _ _ | .junk => rfl
theorem okfL_true : (ps : List DV) → okfL true ps = true
  | [] => rfl
  | p :: ps => by simp only [okfL, DV.okf_true p, okfL_true ps]; rfl
end
theorem cells_okf {f : Bool} : (t : DT) → (x : t.den) → (r : List DV) → t.free = true → okfL f r = true → okfL f (t.cells x r) = true
  | .int _, _, r, _, h | .bool, _, r, _, h | .str, _, r, _, h => by simp only [DT.cells, okfL, DV.okf]; exact h
  | .slc _, _, _, h, _ => by cases h
  | .set, _, _, h, _ => by cases h
  | .unit, _, r, _, h => h
  | .pair a b, x, r, hf, h => by
    simp only [DT.free, Bool.and_eq_true] at hf
    exact cells_okf a _ _ hf.1 (cells_okf b _ _ hf.2 h)
theorem val_okf {f : Bool} : (t : DT) → (x : t.den) → t.free = true → (t.val x).okf f = true
  | .int _, _, _ | .bool, _, _ | .str, _, _ | .unit, _, _ => rfl
  | .slc _, _, h => by cases h
  | .set, _, h => by cases h
  | .pair a b, x, hf => by
    simp only [DT.free, Bool.and_eq_true] at hf
    simp only [DT.val, DV.okf]
    exact cells_okf a _ _ hf.1 (cells_okf b _ _ hf.2 rfl)
def rwFree (rw : List DR) : Prop := ∀ (n : Nat) e t l, rw[n]? = some (.own e t l) → t.free = true
theorem rwFree.snoc {rw : List DR} (h : rwFree rw) {e : TypeId} {t : DT} (l : List t.den) (ht : t.free = true) : rwFree (rw ++ [.own e t l]) := by
  intro n e' t' l' hn
  rcases snoc_get hn with ⟨_, g⟩ | ⟨_, g⟩
  · exact h n e' t' l' g
  · simp only [DR.own.injEq] at g; obtain ⟨_, rfl, _⟩ := g; exact ht
mutual
theorem PK.mk_okf : (p : PK) → (r : DT) → (z : (p.T r).den) → (rw : List DR) → p.free = true → rwFree rw → (p.mk r z rw).1.okf false = true ∧ rwFree (p.mk r z rw).2.2
  | .v t, r, z, rw, h, hr => ⟨val_okf t _ (by simpa only [PK.free] using h), hr⟩
  | .row e t, r, z, rw, h, hr => ⟨rfl, hr.snoc _ (by simpa only [PK.free] using h)⟩
  | .ptr k, r, z, rw, h, hr => ⟨rfl, hr⟩
  | .fn g l, r, z, rw, h, hr => by simp only [PK.mk, DV.okf]; exact pkM_okf l r z rw (by simpa only [PK.free] using h) hr
  | .agg l, r, z, rw, h, hr => by simp only [PK.mk, DV.okf]; exact pkM_okf l r z rw (by simpa only [PK.free] using h) hr
  | .fns l, r, z, rw, h, hr => by simp only [PK.free] at h; cases h
  | .nil n, r, z, rw, h, hr => ⟨rfl, hr⟩
theorem pkM_okf : (l : List PK) → (r : DT) → (z : (pkT l r).den) → (rw : List DR) → pkFree l = true → rwFree rw → okfL false (pkM l r z rw).1 = true ∧ rwFree (pkM l r z rw).2.2
  | [], r, z, rw, _, hr => ⟨rfl, hr⟩
  | p :: l, r, z, rw, h, hr => by
    simp only [pkFree, Bool.and_eq_true] at h
    obtain ⟨h1, h2⟩ := PK.mk_okf p (pkT l r) z rw h.1 hr
    obtain ⟨h3, h4⟩ := pkM_okf l r _ _ h.2 h2
    exact ⟨by simp only [pkM, okfL, h1, h3, Bool.and_self], h4⟩
end
theorem bkM_okf : (l : List BK) → (r : DT) → (z : (bkT l r).den) → (rw : List DR) → bkFree l = true → rwFree rw → (∀ (k : Nat) b, (bkM l r z rw).1[k]? = some (some b) → okfL false b.cells = true) ∧ rwFree (bkM l r z rw).2.2
  | [], r, z, rw, _, hr => ⟨fun k b h => by simp [bkM] at h, hr⟩
  | Bk :: l, r, z, rw, h, hr => by
    simp only [bkFree, Bool.and_eq_true] at h
    obtain ⟨h1, h2⟩ := pkM_okf Bk.cells (bkT l r) z rw h.1 hr
    obtain ⟨h3, h4⟩ := bkM_okf l r _ _ h.2 h2
    refine ⟨fun k b hk => ?_, h4⟩
    simp only [bkM] at hk
    cases k with
    | zero => simp only [List.getElem?_cons_zero, Option.some.injEq] at hk; subst hk; exact h1
    | succ k => exact h3 k b (by simpa using hk)
mutual
theorem QT.mk_okf : (Q : QT) → (x : Q.den) → (rw : List DR) → Q.free = true → rwFree rw → (Q.mk x rw).1.okf false = true ∧ rwFree (Q.mk x rw).2
  | .v t, x, rw, h, hr => ⟨val_okf t _ h, hr⟩
  | .own e t, x, rw, h, hr => ⟨rfl, hr.snoc _ h⟩
  | .ptr k, x, rw, h, hr => ⟨rfl, hr⟩
  | .nil n, x, rw, h, hr => ⟨rfl, hr⟩
  | .unit, x, rw, h, hr => ⟨rfl, hr⟩
  | .pair a b, x, rw, h, hr => by
    simp only [QT.free, Bool.and_eq_true] at h
    obtain ⟨h1, h2⟩ := QT.mk_okf a x.1 rw h.1 hr
    obtain ⟨h3, h4⟩ := QT.mks_okf b x.2 _ h.2 h2
    exact ⟨by simp only [QT.mk, DV.okf, okfL, h1, h3, Bool.and_self], h4⟩
theorem QT.mks_okf : (Q : QT) → (x : Q.den) → (rw : List DR) → Q.free = true → rwFree rw → okfL false (Q.mks x rw).1 = true ∧ rwFree (Q.mks x rw).2
  | .v t, x, rw, h, hr => ⟨rfl, hr⟩
  | .own e t, x, rw, h, hr => ⟨rfl, hr⟩
  | .ptr k, x, rw, h, hr => ⟨rfl, hr⟩
  | .nil n, x, rw, h, hr => ⟨rfl, hr⟩
  | .unit, x, rw, h, hr => ⟨rfl, hr⟩
  | .pair a b, x, rw, h, hr => by
    simp only [QT.free, Bool.and_eq_true] at h
    obtain ⟨h1, h2⟩ := QT.mk_okf a x.1 rw h.1 hr
    obtain ⟨h3, h4⟩ := QT.mks_okf b x.2 _ h.2 h2
    exact ⟨by simp only [QT.mks, okfL, h1, h3, Bool.and_self], h4⟩
end
open Classical in
/-- where the caller finds a box, a row that came back -/
noncomputable def hitB (B B1 : Nat → Nat) (pb1 : DBs) (σ : Nat → Option Nat) : Nat → Nat := fun i => if h : ∃ k, live pb1 k ∧ σ k = some i then B1 (Classical.choose h) else B i
open Classical in
noncomputable def hitA (A A1 : Asg) (js : List Nat) : Asg := fun j => if h : ∃ n : Nat, js[n]? = some j then A1 (Classical.choose h) else A j
theorem hitB_yes {B B1 : Nat → Nat} {pb1 : DBs} {σ : Nat → Option Nat} (hσ : ∀ (k k' i : Nat), σ k = some i → σ k' = some i → k = k') {k i : Nat} (hl : live pb1 k) (hk : σ k = some i) : hitB B B1 pb1 σ i = B1 k := by
  have h : ∃ k, live pb1 k ∧ σ k = some i := ⟨k, hl, hk⟩
  unfold hitB; rw [dif_pos h, hσ _ _ _ (Classical.choose_spec h).2 hk]
theorem hitB_no {B B1 : Nat → Nat} {pb1 : DBs} {σ : Nat → Option Nat} {i : Nat} (h : ¬ ∃ k, live pb1 k ∧ σ k = some i) : hitB B B1 pb1 σ i = B i := by unfold hitB; rw [dif_neg h]
theorem hitA_yes {A A1 : Asg} {js : List Nat} (hi : ∀ (n n' j : Nat), js[n]? = some j → js[n']? = some j → n = n') {n j : Nat} (hn : js[n]? = some j) : hitA A A1 js j = A1 n := by
  have h : ∃ n : Nat, js[n]? = some j := ⟨n, hn⟩
  unfold hitA; rw [dif_pos h, hi _ _ _ (Classical.choose_spec h) hn]
theorem hitA_no {A A1 : Asg} {js : List Nat} {j : Nat} (h : ¬ ∃ n : Nat, js[n]? = some j) : hitA A A1 js j = A j := by unfold hitA; rw [dif_neg h]
section
variable {V : World} {U0 L : Nat → Prop} {al : Nat → Bool} {B B1 : Nat → Nat} {A A1 : Asg} {pb pb0 pb1 pbF : DBs} {rw rw0 rw1 rwF base : List DR} {w w' : World} {σ0 σ : Nat → Option Nat} {rs ρ : List (Option Nat)} {js : List Nat} {bor : Nat → Prop}
theorem Mem.back (f : Nat → Option DV) (fr : Bool) (m : Mem V U0 L B A pb rw w)
    (hrow : ∀ (n b : Nat), blk (lB B σ0) (lA A rs) pb0 rw0 true n b → ∃ j : Nat, rs[n]? = some (some j) ∧ blk B A pb rw true j b)
    (hbx : ∀ k b, blk (lB B σ0) (lA A rs) pb0 rw0 false k b → ∃ i, σ0 k = some i ∧ blk B A pb rw false i b)
    (hal : ∀ k i, σ0 k = some i → al i = true)
    (m1 : Mem w (lU (Us U0 B A pb rw) B A rw (Ow (lB B σ0) (lA A rs) pb0 rw0) bor) (Ow (lB B σ0) (lA A rs) pb0 rw0) B1 A1 pb1 rw1 w')
    (hlive : ∀ i, live pb0 i → live pb1 i ∧ B1 i = lB B σ0 i)
    (hσ : ∀ (k k' i : Nat), σ k = some i → σ k' = some i → k = k') (_ : ∀ k i, live pb0 k → σ0 k = some i → σ k = some i) (hσl : ∀ k i, σ0 k = some i → live pb0 k)
    (hσn : ∀ k i, live pb1 k → σ k = some i → σ0 k = some i ∨ ¬ live pb i)
    (hpb : ∀ (i : Nat) (b' : DB), pbF[i]? = some (some b') → (∃ (k : Nat) (b1 : DB), σ k = some i ∧ pb1[k]? = some (some b1) ∧ b'.ty = b1.ty ∧ b'.cells = renL σ js b1.cells ∧ b'.w = true) ∨
      ((∀ k, σ k = some i → ¬ live pb1 k) ∧ (∀ k, σ0 k ≠ some i) ∧ ∃ b, pb[i]? = some (some b) ∧ b' = ⟨b.ty, subL f b.cells, b.w⟩))
    (hpl : ∀ i, live pb i → live pbF i) (hlF : ∀ k i, σ k = some i → live pb1 k → live pbF i) (ro : RO base rw1 ρ rwF js)
    (hb1 : ∀ j : Nat, (∀ n : Nat, rs[n]? ≠ some (some j)) → base[j]? = rw[j]?) (hb2 : ∀ n j : Nat, rs[n]? = some (some j) → base[j]? = some .dead)
    (hf : ∀ j, f j = none → ∀ n : Nat, rs[n]? ≠ some (some j)) (hfj : ∀ j p, f j = some p → p = .junk)
    (hfr : fr = true → ∀ j, ¬ bor j) (hok : ∀ (k : Nat) b, pb1[k]? = some (some b) → okfL fr b.cells = true) (hok2 : fr = false → rwFree rw1) :
    Mem V U0 L (hitB B B1 pb1 σ) (hitA A A1 js) pbF rwF w' ∧ Sub f (env U0 B A pb rw w) (env U0 (hitB B B1 pb1 σ) (hitA A A1 js) pbF rwF w') ∧ Ext al B A pb rw w (hitB B B1 pb1 σ) (hitA A A1 js) pbF rwF w' ∧
      Tr fr σ js (env (lU (Us U0 B A pb rw) B A rw (Ow (lB B σ0) (lA A rs) pb0 rw0) bor) B1 A1 pb1 rw1 w') (env U0 (hitB B B1 pb1 σ) (hitA A A1 js) pbF rwF w') := by
  generalize hL0 : Ow (lB B σ0) (lA A rs) pb0 rw0 = L0 at *
  have L0s : ∀ b, L0 b → (∃ k i, σ0 k = some i ∧ blk B A pb rw false i b) ∨ ∃ n j : Nat, rs[n]? = some (some j) ∧ blk B A pb rw true j b := by
    intro b hb
    rw [← hL0] at hb
    obtain ⟨k, i, hb⟩ := hb
    cases k with
    | true => obtain ⟨j, h1, h2⟩ := hrow i b hb; exact .inr ⟨i, j, h1, h2⟩
    | false => obtain ⟨j, h1, h2⟩ := hbx i b hb; exact .inl ⟨i, j, h1, h2⟩
  have L0w : ∀ b, L0 b → Wr al B A pb rw b := fun b hb => by
    rcases L0s b hb with ⟨k, i, h1, h2⟩ | ⟨n, j, _, h2⟩
    · exact .inl ⟨i, hal k i h1, h2⟩
    · exact .inr ⟨j, h2⟩
  have L0o : ∀ b, L0 b → ∃ k i, blk B A pb rw k i b := fun b hb => by
    rcases L0s b hb with ⟨k, i, h1, h2⟩ | ⟨n, j, _, h2⟩
    · exact ⟨_, i, h2⟩
    · exact ⟨_, j, h2⟩
  -- what is new, what is as it was
  have jold : ∀ j : Nat, (¬ ∃ n : Nat, js[n]? = some j) → rwF[j]? = base[j]? := fun j h => ro.old j fun n hn => h ⟨n, hn⟩
  have jbase : ∀ j r, rw[j]? = some r → r ≠ .dead → (∀ n : Nat, rs[n]? ≠ some (some j)) → ¬ ∃ n : Nat, js[n]? = some j := by
    rintro j r h1 h2 h3 ⟨n, hn⟩
    have := hb1 j h3
    rw [h1] at this
    rcases ro.new n j hn with h | h
    · rw [this] at h; simp at h; exact h2 h
    · rw [this] at h; cases h
  have cl : ∀ k i b, blk (hitB B B1 pb1 σ) (hitA A A1 js) pbF rwF k i b → (∃ i1, blk B1 A1 pb1 rw1 k i1 b ∧ ((k = false ∧ σ i1 = some i) ∨ (k = true ∧ js[i1]? = some i))) ∨ (blk B A pb rw k i b ∧ ¬ L0 b) := by
    intro k i b h
    cases k with
    | false =>
      obtain ⟨⟨b', g1⟩, g2⟩ := h
      rcases hpb i b' g1 with ⟨k1, b1, h1, h2, _⟩ | ⟨h0, h1, b0, h2, _⟩
      · rw [hitB_yes hσ ⟨b1, h2⟩ h1] at g2
        exact .inl ⟨k1, ⟨⟨b1, h2⟩, g2⟩, .inl ⟨rfl, h1⟩⟩
      · rw [hitB_no (by rintro ⟨k, hk1, hk2⟩; exact h0 k hk2 hk1)] at g2
        have hbl : blk B A pb rw false i b := ⟨⟨b0, h2⟩, g2⟩
        refine .inr ⟨hbl, fun hL => ?_⟩
        rcases L0s b hL with ⟨k, i', e1, e2⟩ | ⟨n, j, _, e2⟩
        · have := (m.inj _ _ _ _ _ hbl e2).2; subst this; exact h1 k e1
        · have := (m.inj _ _ _ _ _ hbl e2).1; cases this
    | true =>
      obtain ⟨r, ad, g1, g2, g3, g4⟩ := h
      by_cases hh : ∃ n : Nat, js[n]? = some i
      · obtain ⟨n, hn⟩ := hh
        have hl := (List.getElem?_eq_some_iff.1 hn).1
        rw [ro.len] at hl
        have hr1 := List.getElem?_eq_getElem hl
        have := ro.row n i _ hn hr1
        rw [g1] at this; simp only [Option.some.injEq] at this; subst this
        rw [hitA_yes ro.inj hn] at g3
        exact .inl ⟨n, ⟨_, ad, hr1, g2, g3, g4⟩, .inr ⟨rfl, hn⟩⟩
      · rw [jold i hh] at g1
        have hnr : ∀ n : Nat, rs[n]? ≠ some (some i) := fun n hn => by rw [hb2 n i hn] at g1; simp at g1; exact g2 g1.symm
        rw [hb1 i hnr] at g1
        rw [hitA_no hh] at g3
        have hbl : blk B A pb rw true i b := ⟨r, ad, g1, g2, g3, g4⟩
        refine .inr ⟨hbl, fun hL => ?_⟩
        rcases L0s b hL with ⟨k, i', e1, e2⟩ | ⟨n, j, e1, e2⟩
        · have := (m.inj _ _ _ _ _ hbl e2).1; cases this
        · have := (m.inj _ _ _ _ _ hbl e2).2; subst this; exact hnr n e1
  have keepB : ∀ b, b < w.heap.size → ¬ L0 b → w'.heap[b]? = w.heap[b]? := fun b hb hn => m1.same b hb hn
  have lt : fr = true → Later (Us (lU (Us U0 B A pb rw) B A rw L0 bor) B1 A1 pb1 rw1) (Us U0 (hitB B B1 pb1 σ) (hitA A A1 js) pbF rwF) w' w' := fun hfr' => ⟨fun _ _ _ => rfl, Nat.le_refl _, fun b _ hu => by
    have u1 : ∀ b, Us U0 B A pb rw b → ¬ L0 b → lU (Us U0 B A pb rw) B A rw L0 bor b := fun b h1 h2 => ⟨h1, h2, fun ⟨j, hj, _⟩ => hfr hfr' j hj⟩
    rcases hu with hu | ⟨k, i, hu⟩
    · refine .inl (u1 b (.inl hu) fun hL => ?_)
      obtain ⟨k, i, hb⟩ := L0o b hL
      have := m.u0 b hu
      rcases (m.low k i b hb).2 with h | h
      · omega
      · exact this.2 h
    · rcases cl k i b hu with ⟨i1, h, _⟩ | ⟨h, hn⟩
      · exact .inr ⟨k, i1, h⟩
      · exact .inl (u1 b (.inr ⟨k, i, h⟩) hn)⟩
  have tr : Tr fr σ js (env (lU (Us U0 B A pb rw) B A rw L0 bor) B1 A1 pb1 rw1 w') (env U0 (hitB B B1 pb1 σ) (hitA A A1 js) pbF rwF w') := by
    refine ⟨lt, fun k i hk hl => ?_, fun n j e t l hn hr => ⟨ro.row n j _ hn hr, hitA_yes ro.inj hn⟩⟩
    exact ⟨hlF k i hk hl, hitB_yes hσ hl hk⟩
  have hbxx : ∀ i, live pb i → live pbF i ∧ hitB B B1 pb1 σ i = B i := fun i hl => by
    refine ⟨hpl i hl, ?_⟩
    by_cases hh : ∃ k, live pb1 k ∧ σ k = some i
    · obtain ⟨k, hk1, hk2⟩ := hh
      rw [hitB_yes hσ hk1 hk2]
      rcases hσn k i hk1 hk2 with h | h
      · rw [(hlive k (hσl k i h)).2]; simp only [lB, h, Option.getD_some]
      · exact absurd hl h
    · exact hitB_no hh
  obtain ⟨M, S, X⟩ := m.step0 (al := al) f (w' := w') (B' := hitB B B1 pb1 σ) (A' := hitA A A1 js) (pb' := pbF) (rw' := rwF) ⟨m1.os, m1.tape, m1.output, m1.size⟩ (fun b hb hn => keepB b hb fun hL => hn (L0w b hL))
    (fun b hb => by
      rcases hb with ⟨i, ha, hb⟩ | ⟨j, hb⟩
      · rcases cl _ i b hb with ⟨i1, h, _⟩ | ⟨h, _⟩
        · rcases (m1.low _ _ _ h).2 with h' | h'
          · exact .inr h'
          · exact .inl (L0w b h')
        · exact .inl (.inl ⟨i, ha, h⟩)
      · rcases cl _ j b hb with ⟨i1, h, _⟩ | ⟨h, _⟩
        · rcases (m1.low _ _ _ h).2 with h' | h'
          · exact .inr h'
          · exact .inl (L0w b h')
        · exact .inl (.inr ⟨j, h⟩))
    (fun k i b hb => by
      rcases cl k i b hb with ⟨i1, h, _⟩ | ⟨h, _⟩
      · have hl := m1.low _ _ _ h
        rcases hl.2 with h' | h'
        · exact .inr ⟨h', hl.1⟩
        · exact .inl (L0o b h')
      · exact .inl ⟨k, i, h⟩)
    (fun k i k' i' b hb hb' => by
      have no : ∀ k i k1 i1, blk B1 A1 pb1 rw1 k1 i1 b → blk B A pb rw k i b → ¬ L0 b → False := fun k i k1 i1 h1 h2 h3 => by
        rcases (m1.low _ _ _ h1).2 with h' | h'
        · have := (m.low _ _ _ h2).1; omega
        · exact h3 h'
      rcases cl k i b hb with ⟨i1, h, hk⟩ | ⟨h, hn⟩
      · rcases cl k' i' b hb' with ⟨i1', h', hk'⟩ | ⟨h', hn'⟩
        · obtain ⟨e1, e2⟩ := m1.inj _ _ _ _ _ h h'
          subst e1 e2
          rcases hk with ⟨rfl, hk⟩ | ⟨rfl, hk⟩
          · rcases hk' with ⟨_, hk'⟩ | ⟨h0, _⟩
            · rw [hk] at hk'; simp at hk'; exact ⟨rfl, hk'⟩
            · cases h0
          · rcases hk' with ⟨h0, _⟩ | ⟨_, hk'⟩
            · cases h0
            · rw [hk] at hk'; simp at hk'; exact ⟨rfl, hk'⟩
        · exact (no _ _ _ _ h h' hn').elim
      · rcases cl k' i' b hb' with ⟨i1', h', _⟩ | ⟨h', _⟩
        · exact (no _ _ _ _ h' h hn).elim
        · exact m.inj _ _ _ _ _ h h')
    hbxx (fun j e t l hfj' hj => by
      have hnr := hf j hfj'
      have hnj := jbase j _ hj (by simp) hnr
      exact ⟨l, by rw [jold j hnj, hb1 j hnr]; exact hj, rfl, hitA_no hnj⟩)
    (fun j d hfj' hj => by
      have hnr := hf j hfj'
      have hnj := jbase j _ hj (by simp) hnr
      exact ⟨⟨d, by rw [jold j hnj, hb1 j hnr]; exact hj, rfl⟩, hitA_no hnj⟩)
    (fun _ j p e t l hp _ => by rw [hfj j p hp]; simp only [DV.h])
    (fun _ j p d ad hp _ _ => by rw [hfj j p hp]; simp only [DV.h])
    (fun _ i b' hi => by
      rcases hpb i b' hi with ⟨k, b1, h1, h2, h3, h4, h5⟩ | ⟨h0, h1, b, h2, rfl⟩
      · obtain ⟨cs, g1, g2, _⟩ := m1.box k b1 h2
        refine .inr ⟨cs, by rw [hitB_yes hσ ⟨b1, h2⟩ h1, h3]; exact g1, by rw [h4]; exact renL_h tr _ (hok k b1 h2) g2, h5⟩
      · refine .inl ⟨b, h2, rfl, rfl, id, ?_⟩
        have hbl : blk B A pb rw false i (B i) := ⟨⟨b, h2⟩, rfl⟩
        refine keepB _ (m.low _ _ _ hbl).1 fun hL => ?_
        rcases L0s _ hL with ⟨k, i', e1, e2⟩ | ⟨n, j, _, e2⟩
        · have := (m.inj _ _ _ _ _ hbl e2).2; subst this; exact h1 k e1
        · have := (m.inj _ _ _ _ _ hbl e2).1; cases this)
    (fun _ j e t l hj => by
      by_cases hh : ∃ n : Nat, js[n]? = some j
      · obtain ⟨n, hn⟩ := hh
        have hl := (List.getElem?_eq_some_iff.1 hn).1
        rw [ro.len] at hl
        have hr1 := List.getElem?_eq_getElem hl
        have := ro.row n j _ hn hr1
        rw [hj] at this; simp only [Option.some.injEq] at this
        rw [← this] at hr1
        obtain ⟨xs, g1, g2⟩ := m1.row n e t l hr1
        refine .inr ⟨xs, by rw [hitA_yes ro.inj hn]; exact g1, ?_⟩
        cases hfr' : fr with
        | true => exact DT.hs_mono (lt hfr') g2
        | false => exact ⟨g2.1, fun i x hx => t.h_free (hok2 hfr' n e t l hr1) (g2.2 i x hx)⟩
      · rw [jold j hh] at hj
        have hnr : ∀ n : Nat, rs[n]? ≠ some (some j) := fun n hn => by rw [hb2 n j hn] at hj; cases hj
        rw [hb1 j hnr] at hj
        refine .inl ⟨hj, hitA_no hh, fun ad had => ?_⟩
        have hbl : blk B A pb rw true j ad.block := ⟨_, ad, hj, by simp, had, rfl⟩
        refine keepB _ (m.low _ _ _ hbl).1 fun hL => ?_
        rcases L0s _ hL with ⟨k, i', e1, e2⟩ | ⟨n, j', e1, e2⟩
        · have := (m.inj _ _ _ _ _ hbl e2).1; cases this
        · have := (m.inj _ _ _ _ _ hbl e2).2; subst this; exact hnr n e1)
    (fun _ j d hj => by
      by_cases hh : ∃ n : Nat, js[n]? = some j
      · obtain ⟨n, hn⟩ := hh
        have hl := (List.getElem?_eq_some_iff.1 hn).1
        rw [ro.len] at hl
        have hr1 := List.getElem?_eq_getElem hl
        have := ro.row n j _ hn hr1
        rw [hj] at this; simp only [Option.some.injEq] at this
        rw [← this] at hr1
        obtain ⟨_, _, _, h'⟩ := ro.own n _ hr1
        cases h'
      · rw [jold j hh] at hj
        have hnr : ∀ n : Nat, rs[n]? ≠ some (some j) := fun n hn => by rw [hb2 n j hn] at hj; cases hj
        rw [hb1 j hnr] at hj
        refine .inl ⟨hj, hitA_no hh, fun ad had => ?_⟩
        have hbl : blk B A pb rw true j ad.block := ⟨_, ad, hj, by simp, had, rfl⟩
        refine keepB _ (m.low _ _ _ hbl).1 fun hL => ?_
        rcases L0s _ hL with ⟨k, i', e1, e2⟩ | ⟨n, j', e1, e2⟩
        · have := (m.inj _ _ _ _ _ hbl e2).1; cases this
        · have := (m.inj _ _ _ _ _ hbl e2).2; subst this; exact hnr n e1)
  exact ⟨M, S, X, tr⟩
end
end Go.Vc

namespace Go.Vc
open Go Go.RowKit
/-! ### A call -/
mutual
theorem DV.sub_agree {f g : Nat → Option DV} (h : ∀ j, (f j).isSome = (g j).isSome) : (p : DV) → (acc : List Nat) → (∀ j ∈ p.rows acc, f j = g j) → p.sub f = p.sub g ∧ ∀ j ∈ acc, f j = g j
  | .row i, acc, hr => by simp only [DV.rows] at hr; exact ⟨by unfold DV.sub; rw [hr i (by simp)], fun j hj => hr j (by simp [hj])⟩
  | .re i a b, acc, hr => by
    refine ⟨?_, hr⟩
    unfold DV.sub
    have := h i
    revert this
    cases f i <;> cases g i <;> simp
  | .rt i a, acc, hr => by
    refine ⟨?_, hr⟩
    unfold DV.sub
    have := h i
    revert this
    cases f i <;> cases g i <;> simp
  | .ra i, acc, hr => by
    refine ⟨?_, hr⟩
    unfold DV.sub
    have := h i
    revert this
    cases f i <;> cases g i <;> simp
  | .rs i a, acc, hr => by
    refine ⟨?_, hr⟩
    unfold DV.sub
    have := h i
    revert this
    cases f i <;> cases g i <;> simp
  | .fns cs, acc, hr => by simp only [DV.rows] at hr; obtain ⟨h1, h2⟩ := subL_agree h cs acc hr; exact ⟨by simp only [DV.sub, h1], h2⟩
  | .fp cs _, acc, hr => by simp only [DV.rows] at hr; obtain ⟨h1, h2⟩ := subL_agree h cs acc hr; exact ⟨by simp only [DV.sub, h1], h2⟩
  | .ob i, acc, hr => by simp only [DV.rows] at hr; exact ⟨by unfold DV.sub; rw [hr i (by simp)], fun j hj => hr j (by simp [hj])⟩
  | .fn _ cs, acc, hr => by simp only [DV.rows] at hr; obtain ⟨h1, h2⟩ := subL_agree h cs acc hr; exact ⟨by simp only [DV.sub, h1], h2⟩
  | .agg cs, acc, hr => by simp only [DV.rows] at hr; obtain ⟨h1, h2⟩ := subL_agree h cs acc hr; exact ⟨by simp only [DV.sub, h1], h2⟩
  | .tup cs, acc, hr => by simp only [DV.rows] at hr; obtain ⟨h1, h2⟩ := subL_agree h cs acc hr; exact ⟨by simp only [DV.sub, h1], h2⟩
  | .int _ _, _, hr | .bool _, _, hr | .lit _, _, hr | .str _, _, hr | .v _, _, hr | .und, _, hr | .sl _ _, _, hr | .cs _ _, _, hr | .set _, _, hr | .el _ _ _, _, hr | .own _ _, _, hr | .junk, _, hr => ⟨rfl, hr⟩
theorem subL_agree {f g : Nat → Option DV} (h : ∀ j, (f j).isSome = (g j).isSome) : (ps : List DV) → (acc : List Nat) → (∀ j ∈ rowsDL ps acc, f j = g j) → subL f ps = subL g ps ∧ ∀ j ∈ acc, f j = g j
  | [], acc, hr => ⟨rfl, hr⟩
  | p :: ps, acc, hr => by
    simp only [rowsDL] at hr
    obtain ⟨h1, h2⟩ := DV.sub_agree h p _ hr
    obtain ⟨h3, h4⟩ := subL_agree h ps acc h2
    exact ⟨by simp only [subL, h1, h3], h4⟩
end
theorem viewD_n {rw : List DR} {j : Nat} {e : TypeId} {t : DT} {l : List t.den} (h : rw[j]? = some (.own e t l)) : viewD rw j = some (.sl t l) := by unfold viewD; rw [drV_spec, h]
mutual
theorem PK.view_s {β : Type} {q : β} {rw : List DR} {f : Nat → Option DV} {E E' : Env} (s : Sub f E E') (s0 : Sub noF E E') (hs : ∀ j, (f j).isSome = (viewD rw j).isSome) : (p : PK) → (u : DV) → (acc : List Nat) → (K : DV → Option β) → (∀ j ∈ p.frz u acc, f j = viewD rw j) → p.view rw u K = some q →
    (∃ u', K u' = some q ∧ ∀ v, u.h E v → u'.h E' v) ∧ ∀ j ∈ acc, f j = viewD rw j
  | .v t, u, acc, K, hr, h => by
    simp only [PK.view, DV.subE_eq] at h
    simp only [PK.frz] at hr
    obtain ⟨h1, h2⟩ := DV.sub_agree hs u acc hr
    rw [← h1] at h
    exact ⟨⟨_, h, fun v hv => DV.h_sub s u hv⟩, h2⟩
  | .row e t, u, acc, K, hr, h => ⟨⟨u, by cases u <;> exact h, fun v hv => noSub1 s0 hv⟩, by cases u <;> exact hr⟩
  | .ptr k, u, acc, K, hr, h => ⟨⟨u, by cases u <;> exact h, fun v hv => noSub1 s0 hv⟩, by cases u <;> exact hr⟩
  | .fn g l, u, acc, K, hr, h => by
    cases u with
    | fn g' cs =>
      simp only [PK.view] at h
      simp only [PK.frz] at hr
      obtain ⟨⟨us, h1, h2, _⟩, h3⟩ := viewL_s s s0 hs l cs acc _ hr h
      refine ⟨⟨_, h1, fun v hv => ?_⟩, h3⟩
      simp only [DV.h] at hv ⊢
      obtain ⟨vs, rfl, hv⟩ := hv
      exact ⟨vs, rfl, h2 _ hv⟩
    | _ => exact ⟨⟨_, h, fun v hv => noSub1 s0 hv⟩, hr⟩
  | .agg l, u, acc, K, hr, h => by
    cases u with
    | agg cs =>
      simp only [PK.view] at h
      simp only [PK.frz] at hr
      obtain ⟨⟨us, h1, h2, _⟩, h3⟩ := viewL_s s s0 hs l cs acc _ hr h
      refine ⟨⟨_, h1, fun v hv => ?_⟩, h3⟩
      simp only [DV.h] at hv ⊢
      obtain ⟨vs, rfl, hv⟩ := hv
      exact ⟨vs, rfl, h2 _ hv⟩
    | _ => exact ⟨⟨_, h, fun v hv => noSub1 s0 hv⟩, hr⟩
  | .fns l, u, acc, K, hr, h => by
    cases u with
    | fns cs =>
      simp only [PK.view] at h
      simp only [PK.frz] at hr
      obtain ⟨⟨us, h1, h2, h2'⟩, h3⟩ := viewL_s s s0 hs l cs acc _ hr h
      refine ⟨⟨_, h1, fun v hv => ?_⟩, h3⟩
      simp only [DV.h] at hv ⊢
      obtain ⟨ad, vs, c, rfl, hv, k⟩ := hv
      exact ⟨ad, vs, c, by rw [h2'], h2 _ hv, k.mono s0.later⟩
    | _ => exact ⟨⟨_, h, fun v hv => noSub1 s0 hv⟩, hr⟩
  | .nil n, u, acc, K, hr, h => ⟨⟨u, by cases u <;> exact h, fun v hv => noSub1 s0 hv⟩, by cases u <;> exact hr⟩
theorem viewL_s {β : Type} {q : β} {rw : List DR} {f : Nat → Option DV} {E E' : Env} (s : Sub f E E') (s0 : Sub noF E E') (hs : ∀ j, (f j).isSome = (viewD rw j).isSome) : (l : List PK) → (us : List DV) → (acc : List Nat) → (K : List DV → Option β) → (∀ j ∈ frzL l us acc, f j = viewD rw j) → viewL rw l us K = some q →
    (∃ us', K us' = some q ∧ (∀ vs, hL E us vs → hL E' us' vs) ∧ us'.length = us.length) ∧ ∀ j ∈ acc, f j = viewD rw j
  | [], us, acc, K, hr, h => ⟨⟨us, h, fun v hv => noSub s0 hv, rfl⟩, hr⟩
  | p :: l, [], acc, K, hr, h => ⟨⟨[], h, fun v hv => noSub s0 hv, rfl⟩, hr⟩
  | p :: l, u :: us, acc, K, hr, h => by
    simp only [viewL] at h
    simp only [frzL] at hr
    obtain ⟨⟨u', h1, h2⟩, h3⟩ := PK.view_s s s0 hs p u _ _ hr h
    obtain ⟨⟨us', g1, g2, g4⟩, g3⟩ := viewL_s s s0 hs l us acc _ h3 h1
    refine ⟨⟨_, g1, fun vs hv => ?_, by simp only [List.length_cons, g4]⟩, g3⟩
    simp only [hL] at hv ⊢
    obtain ⟨v, vs', rfl, k1, k2⟩ := hv
    exact ⟨v, vs', rfl, h2 v k1, g2 vs' k2⟩
end
theorem lkA_mem : ∀ {am : List (Nat × Nat)} {k i : Nat}, lkA am k = some i → (k, i) ∈ am
  | [], k, i, h => by simp [lkA] at h
  | (k', i') :: am, k, i, h => by
    simp only [lkA] at h
    split at h
    · rename_i hb; simp only [Option.some.injEq] at h; subst h; rw [Nat.eq_of_beq_eq_true hb]; simp
    · exact List.mem_cons_of_mem _ (lkA_mem h)
theorem lkA_inj : ∀ {am : List (Nat × Nat)}, nodupN (sndN am) = true → ∀ {k k' i : Nat}, lkA am k = some i → lkA am k' = some i → k = k'
  | [], _, k, k', i, h, _ => by simp [lkA] at h
  | (k0, i0) :: am, hn, k, k', i, h, h' => by
    simp only [sndN, nodupN, Bool.and_eq_true, Bool.not_eq_true'] at hn
    have hni : ∀ k, (k, i0) ∉ am := fun k hm => by
      have : i0 ∈ sndN am := by
        clear h h' hn
        induction am with
        | nil => cases hm
        | cons p am ih => rcases List.mem_cons.1 hm with rfl | hm
                          · simp [sndN]
                          · simp [sndN, ih hm]
      rw [← memN_iff] at this; rw [hn.1] at this; cases this
    simp only [lkA] at h h'
    split at h
    · rename_i hb
      simp only [Option.some.injEq] at h; subst h
      split at h'
      · rename_i hb'; rw [← Nat.eq_of_beq_eq_true hb, ← Nat.eq_of_beq_eq_true hb']
      · exact absurd (lkA_mem h') (hni _)
    · split at h'
      · simp only [Option.some.injEq] at h'; subst h'; exact absurd (lkA_mem h) (hni _)
      · exact lkA_inj hn.2 h h'
theorem keysLt_s : ∀ {am : List (Nat × Nat)} {n : Nat}, keysLt am n = true → ∀ {k i : Nat}, lkA am k = some i → k < n
  | [], _, _, k, i, h => by simp [lkA] at h
  | (k0, i0) :: am, n, ha, k, i, h => by
    simp only [keysLt, Bool.and_eq_true] at ha
    simp only [lkA] at h
    split at h
    · rename_i hb; rw [← Nat.eq_of_beq_eq_true hb]; exact Nat.le_of_ble_eq_true ha.1
    · exact keysLt_s ha.2 h
theorem allN_s : ∀ {am : List (Nat × Nat)} {al : Nat → Bool}, allN al (sndN am) = true → ∀ {k i : Nat}, lkA am k = some i → al i = true
  | [], _, _, k, i, h => by simp [lkA] at h
  | (k0, i0) :: am, al, ha, k, i, h => by
    simp only [sndN, allN, Bool.and_eq_true] at ha
    simp only [lkA] at h
    split at h
    · simp only [Option.some.injEq] at h; subst h; exact ha.1
    · exact allN_s ha.2 h
theorem someN_iff : ∀ {rs : List (Option Nat)} {j : Nat}, j ∈ someN rs ↔ ∃ n : Nat, rs[n]? = some (some j)
  | [], j => by simp [someN]
  | some i :: rs, j => by
    simp only [someN, List.mem_cons, someN_iff (rs := rs)]
    constructor
    · rintro (rfl | ⟨n, hn⟩)
      · exact ⟨0, rfl⟩
      · exact ⟨n + 1, by simpa using hn⟩
    · rintro ⟨n, hn⟩
      cases n with
      | zero => simp at hn; exact .inl hn.symm
      | succ n => exact .inr ⟨n, by simpa using hn⟩
  | none :: rs, j => by
    simp only [someN, someN_iff (rs := rs)]
    constructor
    · rintro ⟨n, hn⟩; exact ⟨n + 1, by simpa using hn⟩
    · rintro ⟨n, hn⟩
      cases n with
      | zero => simp at hn
      | succ n => exact ⟨n, by simpa using hn⟩
theorem someD_s {js : List Nat} {j : Nat} : (someD js j = none ↔ j ∉ js) ∧ ∀ p, someD js j = some p → p = .junk := by
  unfold someD
  cases h : memN j js with
  | true => exact ⟨by simp [(memN_iff j js).1 h], fun p hp => by simp at hp; exact hp.symm⟩
  | false =>
    have hn : j ∉ js := fun hm => by rw [(memN_iff j js).2 hm] at h; cases h
    exact ⟨⟨fun _ => hn, fun _ => rfl⟩, fun p hp => by cases hp⟩
theorem disN_s : ∀ {l js : List Nat}, disN l js = true → ∀ j ∈ l, j ∉ js
  | [], _, _ => by simp
  | n :: l, js, h => by
    simp only [disN, Bool.and_eq_true, Bool.not_eq_true'] at h
    intro j hj
    rcases List.mem_cons.1 hj with rfl | hj
    · intro hm; rw [(memN_iff _ _).2 hm] at h; cases h.1
    · exact disN_s h.2 j hj
section
variable {P : Program} {V : World} {U0 L : Nat → Prop} {al : Nat → Bool} {B : Nat → Nat} {A : Asg} {ts : List DV} {pb : DBs} {rw : List DR} {a : Act} {w : World} {β : Type} {q : β} {o : Oper} {K : DK β} {Q : Exit → Act → World → Prop}
theorem call_wp {g : FuncId} {args : Array Value} {R : Value → World → Prop} {N : Act → World → Prop} (hrun : (execOp a.eval o).run P w = (callFunc g args).run P w) (hc : CallsX P g args w R) (hR : ∀ v w', R v w' → N (a.put o.dst v) w') : o.wp P a w N Q := by
  rcases hc.ex with ⟨hb, hc⟩ | ⟨v, w', h1, h2⟩
  · rw [hb.run] at hrun
    simp only [Oper.wp, hrun, Oper.upon]
    refine hc.mono fun e w' ⟨v, he, hh⟩ => ?_
    subst he
    exact hR v w' hh
  · rw [h1] at hrun
    exact wp_of_value hrun (hR v w' h2)
theorem call_first {c : Call} {f : Operand} {g : FuncId} {caps : Array Value} (ho : o.op = .call c) (hc : c.callee = .value f) (hf : a.eval f = .func (.func g) caps #[]) :
    (execOp a.eval o).run P w = (callFunc g (caps ++ c.args.map a.eval)).run P w := by
  simp only [execOp, ho, resolve, hc, hf, Deferred.ofValue, Sem.run_bind, Sem.run_pure, Result.andThen_ok, invoke, Array.append_empty]
theorem call_resolve {c : Call} {f : Operand} {g : FuncId} {caps : Array Value} (ho : o.op = .call c) (hc : c.callee = .value f) (hf : a.eval f = .func (.func g) #[] caps) :
    (execOp a.eval o).run P w = (callFunc g (c.args.map a.eval ++ caps)).run P w := by
  simp only [execOp, ho, resolve, hc, hf, Deferred.ofValue, Sem.run_bind, Sem.run_pure, Result.andThen_ok, invoke, Array.empty_append]
theorem fnV_t {g : Nat} (h : Nat.ble 1000000 g = true) (vs : Array Value) : fnV g vs = .func (.func (g - 1000000)) vs #[] := by unfold fnV; rw [h, cond_true]
theorem fnV_f {g : Nat} (h : Nat.ble 1000000 g = false) (vs : Array Value) : fnV g vs = .func (.func g) #[] vs := by unfold fnV; rw [h, cond_false]
theorem RO.nil (rw : List DR) : RO rw [] [] rw [] := ⟨rfl, fun n j r h => by simp at h, fun n n' j h => by simp at h, fun a j h => by simp at h, fun a b j h => by simp at h, fun _ _ => rfl, fun n j h => by simp at h, fun n r h => by simp at h⟩
theorem esF_ok {g : FuncId} {s : ES} {xs : List DV} {vs : List Value} (fr : Bool) (bor : Nat → Prop) (hs : ESok P g s) (h : esF stdW s xs ts pb rw (fun r ts pb rw => retE o.dst r ts pb rw K) = some q) (m : Mem V U0 L B A pb rw w) (hts : hL (env U0 B A pb rw w) ts a.tmps.toList)
    (hxs : hL ⟨lU (Us U0 B A pb rw) B A rw (fun _ => False) bor, w, B, A, pb, rw⟩ xs vs) (hfr : fr = true → ∀ j, ¬ bor j) (hfree : fr = false → s.Q.free = true) (hrun : (execOp a.eval o).run P w = (callFunc g vs.toArray).run P w) : o.wp P a w (Nxt V U0 L al B A pb rw w a K q) Q := by
  unfold esF at h
  split at h
  · rename_i x hx
    obtain ⟨y, hy, h⟩ := call_s h
    have hL0 : Ow (lB B fun _ => none) (lA A []) [] [] = fun _ => False := by
      funext b
      refine propext ⟨?_, False.elim⟩
      rintro ⟨k, i, hb⟩
      cases k with
      | true => obtain ⟨r, ad, h1, _⟩ := hb; simp at h1
      | false => obtain ⟨⟨b0, h1⟩, _⟩ := hb; simp at h1
    obtain ⟨m0, hU, hr1, hb1⟩ := m.lend (σ := fun _ => none) (rs := []) (bor := bor) (pb0 := []) (rw0 := []) (fun k b0 h => by simp at h) (fun k b0 i b h => by simp at h) (fun k k' i h => by cases h) (fun n r h => by simp at h) (fun n n' j h => by simp at h)
    have hargs : hL (env (lU (Us U0 B A pb rw) B A rw (Ow (lB B fun _ => none) (lA A []) [] []) bor) (lB B fun _ => none) (lA A []) [] [] w) (argVs s.P x) vs := by
      refine ofA_h (E := ⟨lU (Us U0 B A pb rw) B A rw (fun _ => False) bor, w, B, A, pb, rw⟩) (E0 := env (lU (Us U0 B A pb rw) B A rw (Ow (lB B fun _ => none) (lA A []) [] []) bor) (lB B fun _ => none) (lA A []) [] [] w) ⟨fun _ _ _ => rfl, Nat.le_refl _, fun b _ hu => ?_⟩ hx hxs
      rcases hu with hu | hu
      · rw [hL0] at hu; exact hu
      · have : Ow (lB B fun _ => none) (lA A []) [] [] b := hu
        rw [hL0] at this; exact this.elim
    refine call_wp hrun (hs x y hy _ _ _ vs w m0 hargs) ?_
    rintro v w' ⟨B1, A1, r, pb1, rw1, m1, hrv, hlv, rfl, hmk⟩
    obtain ⟨d, ρ', rwC, js, h1, h2, _, h3⟩ := QT.o_s s.Q y [] rw _ [] [] h (RO.nil rw)
    rw [← hmk] at h2 h3
    obtain ⟨M, S, X, tr⟩ := Mem.back (al := al) (σ := fun _ => none) (pbF := pb) (base := rw) noF fr m hr1 hb1 (fun k i h => by cases h) m1 hlv (fun k k' i h => by cases h) (fun k i _ h => by cases h) (fun k i h => by cases h) (fun k i _ h => by cases h)
      (fun i b' hi => .inr ⟨fun k h => (by cases h), fun k h => (by cases h), b', hi, (by rw [subL_no])⟩) (fun i h => h) (fun k i h => by cases h) h2 (fun _ _ => rfl) (fun n j h => by simp at h) (fun j _ n h => by simp at h) (fun j p h => by cases h) hfr (fun k b h => by simp at h)
      (fun hf => by have := (QT.mk_okf s.Q y [] (hfree hf) (fun n e t l h => by simp at h)).2; rw [← hmk] at this; exact this)
    refine Nxt.ret h1 M (noSub S hts) ?_ X
    rw [h3 js (Pre.refl _)]
    refine DV.ren_h tr r ?_ hrv
    cases hf : fr with
    | true => exact DV.okf_true r
    | false => have := (QT.mk_okf s.Q y [] (hfree hf) (fun n e t l h => by simp at h)).1; rw [← hmk] at this; exact this
  · cases h
end
end Go.Vc

namespace Go.Vc
open Go Go.RowKit
theorem tysE_len : ∀ {l l' : List BK}, tysE l l' = true → l.length ≤ l'.length
  | [], _, _ => Nat.zero_le _
  | _ :: _, [], h => by simp [tysE] at h
  | _ :: l, _ :: l', h => by simp only [tysE, Bool.and_eq_true] at h; have := tysE_len h.2; simp; exact this
theorem bkM_all : ∀ (l : List BK) (r : DT) (z : (bkT l r).den) (rw : List DR) (k : Nat), k < l.length → live (bkM l r z rw).1 k
  | [], _, _, _, k, h => by simp at h
  | Bk :: l, r, z, rw, k, h => by
    cases k with
    | zero => exact ⟨_, rfl⟩
    | succ k => exact bkM_all l r _ _ k (by simpa using h)
section
variable {P : Program} {T : List TI} {V : World} {U0 L : Nat → Prop} {al : Nat → Bool} {B : Nat → Nat} {A : Asg} {ts : List DV} {pb : DBs} {rw : List DR} {a : Act} {w : World} {β : Type} {q : β} {o : Oper} {K : DK β} {Q : Exit → Act → World → Prop} {C : ESs} {av : List (Nat × Nat)}
theorem callE_ok {g : FuncId} {s : LS} {am : List (Nat × Nat)} {vw : List Nat} {xs : List DV} {vs : List Value} (fr : Bool) (hs : LSok P g s) (h : callE stdW s al am vw xs ts pb rw (fun r ts pb rw => retE o.dst r ts pb rw K) = some q) (m : Mem V U0 L B A pb rw w) (hts : hL (env U0 B A pb rw w) ts a.tmps.toList)
    (hxs : ∀ (bor : Nat → Prop), (fr = true → ∀ j, ¬ bor j) → (fr = false → ∀ j ∈ vw, bor j) → hL ⟨fun b => Us U0 B A pb rw b ∧ ¬ ∃ j, bor j ∧ blk B A [] rw true j b, w, B, A, pb, rw⟩ xs vs) (hfree : fr = false → s.Q.free = true ∧ bkFree s.E = true)
    (hrun : (execOp a.eval o).run P w = (callFunc g vs.toArray).run P w) : o.wp P a w (Nxt V U0 L al B A pb rw w a K q) Q := by
  unfold callE at h
  split at h
  · rename_i z ms hck hX
    simp only [Bool.and_eq_true] at hck
    obtain ⟨⟨⟨hnd, hall⟩, hty⟩, hkl⟩ := hck
    split at h
    · rename_i hdis
      simp only [subLE_eq, subBE_eq] at h
      obtain ⟨y, hy, h⟩ := call_s h
      -- what is borrowed
      let bor : Nat → Prop := fun j => fr = false ∧ ∀ n : Nat, ms.rs[n]? ≠ some (some j)
      have hb1 : fr = true → ∀ j, ¬ bor j := fun hf j ⟨h, _⟩ => by rw [hf] at h; cases h
      have hb2 : fr = false → ∀ j ∈ vw, bor j := fun hf j hj => ⟨hf, fun n hn => disN_s hdis j hj (someN_iff.2 ⟨n, hn⟩)⟩
      have hxs := hxs bor hb1 hb2
      let E : Env := ⟨fun b => Us U0 B A pb rw b ∧ ¬ ∃ j, bor j ∧ blk B A [] rw true j b, w, B, A, pb, rw⟩
      have hlE : Later (Us U0 B A pb rw) E.U w w := ⟨fun _ _ _ => rfl, Nat.le_refl _, fun b _ hu => hu.1⟩
      have hsE : Sub noF (env U0 B A pb rw w) E := ⟨hlE, fun i h => ⟨h, rfl⟩, fun j e t l _ h => ⟨l, h, rfl, rfl⟩, fun j d _ h => ⟨⟨d, h, rfl⟩, rfl⟩, fun j p e t l h => (by cases h), fun j p d ad h => (by cases h)⟩
      obtain ⟨z0, m1, rw1, g1, g2, g3, ⟨a1, g4⟩, ⟨b1, g5⟩, g6, g7, g8⟩ := bkX_s (am := am) (E := E) s.B 0 (pkT s.P .unit) ⟨[], rw⟩ _ [] z ms hX (MI.nil E)
      obtain ⟨u0, m2, rw2, k1, k2, k3, ⟨a2, k4⟩, ⟨b2, k5⟩, k6⟩ := pkX_s (am := am) (E := E) s.P .unit xs m1 _ rw1 z0 ms g1 g3
      simp only [Option.some.injEq, Prod.mk.injEq] at k1
      obtain ⟨_, rfl⟩ := k1
      -- names for what the function is handed
      have e1 : bkM s.B (pkT s.P .unit) z [] = ((bkM s.B (pkT s.P .unit) z []).1, z0, rw1) := by rw [← g2]
      have e2 : pkM s.P .unit z0 rw1 = ((pkM s.P .unit z0 rw1).1, u0, rw2) := by rw [← k2]
      generalize hpb0 : (bkM s.B (pkT s.P .unit) z []).1 = pb0 at e1 g6 g7 g8
      generalize hargs0 : (pkM s.P .unit z0 rw1).1 = args0 at e2 k6
      have hctr := hs z y hy
      rw [e1] at hctr
      simp only [e2] at hctr
      have hr := k3.row
      have hlive : ∀ k, k < s.B.length → ∃ i, lkA am k = some i ∧ live pb i := fun k hk => by
        obtain ⟨b0, hb0⟩ := g8 k hk
        obtain ⟨i, b, h1, h2, _⟩ := g7 k b0 hb0
        exact ⟨i, by simpa using h1, b, h2⟩
      have hpl0 : ∀ k, live pb0 k → k < s.B.length := fun k ⟨b, hb⟩ => by rw [← g6]; exact (List.getElem?_eq_some_iff.1 hb).1
      let σ0 : Nat → Option Nat := fun k => match Nat.blt k s.B.length with | true => lkA am k | false => none
      have σ0s : ∀ k i, σ0 k = some i → k < s.B.length ∧ lkA am k = some i := fun k i h => by
        simp only [σ0] at h
        split at h
        · rename_i hb; exact ⟨Nat.le_of_ble_eq_true hb, h⟩
        · cases h
      have σ0e : ∀ k, k < s.B.length → σ0 k = lkA am k := fun k hk => by
        simp only [σ0]
        rw [show Nat.blt k s.B.length = true from Nat.ble_eq_true_of_le hk]
      have tri : TrI am m2.rs E (env (lU (Us U0 B A pb rw) B A rw (Ow (lB B σ0) (lA A m2.rs) pb0 rw2) bor) (lB B σ0) (lA A m2.rs) pb0 rw2 w) := by
        refine ⟨⟨fun _ _ _ => rfl, Nat.le_refl _, fun b _ hu => ?_⟩, fun k i hk hl => ?_, fun n j e t l hn hj => ?_, fun n hn => ?_⟩
        · rcases hu with hu | ⟨k, i, hu⟩
          · exact ⟨hu.1, hu.2.2⟩
          · cases k with
            | true =>
              obtain ⟨r, ad, h1, h2, h3, h4⟩ := hu
              rcases hr i r h1 with ⟨j, e, t, l, c1, c2, c3⟩ | ⟨c1, _⟩
              · have hbl : blk B A pb rw true j b := ⟨r, ad, c2, h2, by simpa only [lA, c1] using h3, h4⟩
                refine ⟨.inr ⟨_, _, hbl⟩, ?_⟩
                rintro ⟨j', hj', hb'⟩
                have := (m.inj _ _ _ _ _ hbl (show blk B A pb rw true j' b from hb')).2
                subst this
                exact hj'.2 i c1
              · simp only [lA, c1] at h3; cases h3
            | false =>
              obtain ⟨⟨b0, h1⟩, h2⟩ := hu
              have hk := hpl0 i ⟨b0, h1⟩
              obtain ⟨i', b', c1, c2, _⟩ := g7 i b0 h1
              rw [Nat.zero_add] at c1
              have hbl : blk B A pb rw false i' b := ⟨⟨b', c2⟩, by simpa only [lB, σ0e i hk, c1, Option.getD_some] using h2⟩
              refine ⟨.inr ⟨_, _, hbl⟩, ?_⟩
              rintro ⟨j', hj', hb'⟩
              have := (m.inj _ _ _ _ _ hbl (show blk B A pb rw true j' b from hb')).1
              cases this
        · have hkB := keysLt_s hkl hk
          obtain ⟨b0, hb0⟩ := g8 k hkB
          refine ⟨⟨b0, hb0⟩, ?_⟩
          show lB B σ0 k = B i
          simp only [lB, σ0e k hkB, hk, Option.getD_some]
        · obtain ⟨n', hn'⟩ : ∃ r, rw2[n]? = some r := ⟨_, List.getElem?_eq_getElem (by rw [← k3.len]; exact (List.getElem?_eq_some_iff.1 hn).1)⟩
          rcases hr n n' hn' with ⟨j', e', t', l', c1, c2, c3⟩ | ⟨c1, _⟩
          · rw [hn] at c1; simp only [Option.some.injEq] at c1; subst c1
            have hj : E.rw[j]? = some (.own e t l) := hj
            rw [hj] at c2; simp only [Option.some.injEq] at c2
            refine ⟨by rw [c2]; exact hn', ?_⟩
            show lA A m2.rs n = A j
            simp only [lA, hn]
          · rw [hn] at c1; cases c1
        · obtain ⟨n', hn'⟩ : ∃ r, rw2[n]? = some r := ⟨_, List.getElem?_eq_getElem (by rw [← k3.len]; exact (List.getElem?_eq_some_iff.1 hn).1)⟩
          rcases hr n n' hn' with ⟨j', e', t', l', c1, c2, c3⟩ | ⟨_, e, t, c1⟩
          · rw [hn] at c1; cases c1
          · refine ⟨⟨e, t, by rw [← c1]; exact hn'⟩, ?_⟩
            show lA A m2.rs n = (none, 0)
            simp only [lA, hn]
      have hbw : ∀ (k : Nat) (b0 : DB), pb0[k]? = some (some b0) → ∃ i b, σ0 k = some i ∧ pb[i]? = some (some b) ∧ b0.ty = b.ty ∧ b0.w = true := fun k b0 h => by
        obtain ⟨i, b, h1, h2, h3, h4, _⟩ := g7 k b0 h
        rw [Nat.zero_add] at h1
        exact ⟨i, b, by rw [σ0e k (hpl0 k ⟨b0, h⟩)]; exact h1, h2, h3, h4⟩
      obtain ⟨m0, hU, hr1, hbl1⟩ := m.lend (σ := σ0) (rs := m2.rs) (bor := bor) (pb0 := pb0) (rw0 := rw2) hbw
        (fun k b0 i b h1 h2 h3 us hu => by
          obtain ⟨i', b', c1, c2, _, _, c5⟩ := g7 k b0 h1
          rw [Nat.zero_add] at c1
          rw [(σ0s k i h2).2] at c1; simp only [Option.some.injEq] at c1; subst c1
          have c2 : pb[i]? = some (some b') := c2
          rw [h3] at c2; simp only [Option.some.injEq] at c2; subst c2
          exact c5 _ ⟨a2, k4⟩ tri us (noSub hsE hu))
        (fun k k' i h h' => lkA_inj hnd (σ0s k i h).2 (σ0s k' i h').2) (fun n r h => hr n r h) k3.inj
      refine call_wp hrun (hctr _ _ _ vs w m0 (k6 _ vs ⟨[], by simp⟩ tri hxs)) ?_
      rintro v w' ⟨B1, A1, r, pb1, rw1', m1', hrv, hlv, hpb1, hmk⟩
      have hm := hty
      have hEl := tysE_len hty
      let σ := sigA am s.B.length (subB' (someD (someN m2.rs)) pb).length
      have hσlt : ∀ k i, k < s.B.length → lkA am k = some i → i < pb.length := fun k i hk hi => by
        obtain ⟨i', h1, ⟨b, hb⟩⟩ := hlive k hk
        rw [hi] at h1; simp only [Option.some.injEq] at h1; subst h1
        exact (List.getElem?_eq_some_iff.1 hb).1
      have σlo : ∀ k, k < s.B.length → σ k = lkA am k := fun k hk => by
        simp only [σ, sigA]; rw [show Nat.blt k s.B.length = true from Nat.ble_eq_true_of_le hk]
      have σhi : ∀ k, s.B.length ≤ k → σ k = some (pb.length + (k - s.B.length)) := fun k hk => by
        simp only [σ, sigA]
        rw [show Nat.blt k s.B.length = false from by
          cases hb : Nat.blt k s.B.length with
          | false => rfl
          | true => have := Nat.le_of_ble_eq_true hb; omega]
        simp only [subB'_len]
      have hσ : ∀ (k k' i : Nat), σ k = some i → σ k' = some i → k = k' := fun k k' i h h' => by
        rcases Nat.lt_or_ge k s.B.length with hk | hk
        · rw [σlo k hk] at h
          have h3 := hσlt k i hk h
          rcases Nat.lt_or_ge k' s.B.length with hk' | hk'
          · rw [σlo k' hk'] at h'; exact lkA_inj hnd h h'
          · rw [σhi k' hk'] at h'; simp only [Option.some.injEq] at h'; omega
        · rw [σhi k hk] at h; simp only [Option.some.injEq] at h
          rcases Nat.lt_or_ge k' s.B.length with hk' | hk'
          · rw [σlo k' hk'] at h'; have := hσlt k' i hk' h'; omega
          · rw [σhi k' hk'] at h'; simp only [Option.some.injEq] at h'; omega
      have ro0 : RO m2.rw [] m2.rs m2.rw [] := ⟨rfl, fun n j r h => (by simp at h), fun n n' j h => (by simp at h), fun a j h => ⟨k3.gone a j h, k3.gone a j h, fun n h => (by simp at h)⟩, fun a b j h h' => k3.inj a b j h h', fun _ _ => rfl, fun n j h => (by simp at h), fun n r h => (by simp at h)⟩
      obtain ⟨ρ1, pbF, rwF1, js1, f1, f2, f3, f4, f5, f6, f7, f8⟩ := bkO_s (σ := σ) (base := m2.rw) hσ s.E 0 .unit y.2 m2.rs _ m2.rw _ [] [] h ro0 (fun k i hk hi => by rw [subB'_len]; exact hσlt k i hk (by rw [← σlo k hk]; exact hi)) (fun k hk _ => by rw [σhi k hk, subB'_len, Nat.zero_max])
      obtain ⟨d, ρ2, rwF, js, q1, q2, q3, q4⟩ := QT.o_s s.Q y.1 ρ1 rwF1 _ _ js1 f1 f2
      rw [← hmk] at q2 q4
      have hokE : fr = false → (∀ (k : Nat) b, (bkM s.E .unit y.2 []).1[k]? = some (some b) → okfL false b.cells = true) ∧ rwFree (bkM s.E .unit y.2 []).2.2 := fun hf => bkM_okf s.E .unit y.2 [] (hfree hf).2 (fun n e t l h => (by simp at h))
      have hokQ : fr = false → (s.Q.mk y.1 (bkM s.E .unit y.2 []).2.2).1.okf false = true ∧ rwFree (s.Q.mk y.1 (bkM s.E .unit y.2 []).2.2).2 := fun hf => QT.mk_okf s.Q y.1 _ (hfree hf).1 (hokE hf).2
      have pbl : ∀ i, live (subB' (someD (someN m2.rs)) pb) i ↔ live pb i := fun i => subB'_live
      have ltl : ∀ {pb : DBs} {i : Nat}, live pb i → i < pb.length := fun ⟨b, hb⟩ => (List.getElem?_eq_some_iff.1 hb).1
      obtain ⟨M, S, X, tr⟩ := Mem.back (al := al) (σ := σ) (pbF := pbF) (base := m2.rw) (someD (someN m2.rs)) fr m hr1 hbl1 (fun k i h => allN_s hall (σ0s k i h).2) m1' hlv hσ (fun k i _ h => by rw [σlo k (σ0s k i h).1]; exact (σ0s k i h).2)
        (fun k i h => g8 k (σ0s k i h).1)
        (fun k i hl hk => by
          rcases Nat.lt_or_ge k s.B.length with hk' | hk'
          · exact .inl (by rw [σ0e k hk', ← σlo k hk']; exact hk)
          · refine .inr fun hl' => ?_
            rw [σhi k hk'] at hk; simp only [Option.some.injEq] at hk
            have := ltl hl'; omega)
        (fun i b' hi => by
          have hcase : (∃ k b1, σ k = some i ∧ pb1[k]? = some (some b1)) ∨ ¬ ∃ k b1, σ k = some i ∧ pb1[k]? = some (some b1) := Classical.em _
          rcases hcase with ⟨k, b1, c1, c2⟩ | hno
          · rw [hpb1] at c2
            have := f5 k b1 i c2 (by rw [Nat.zero_add]; exact c1) js q3
            rw [hi] at this; simp only [Option.some.injEq] at this; subst this
            exact .inl ⟨k, b1, c1, by rw [hpb1]; exact c2, rfl, rfl, rfl⟩
          · have hno' : ∀ k, σ k = some i → ¬ live pb1 k := fun k hk ⟨b1, hb1⟩ => hno ⟨k, b1, hk, hb1⟩
            have hBno : ∀ k, k < s.B.length → σ k ≠ some i := fun k hk hki => by
              refine hno' k hki ?_
              rw [hpb1]
              exact bkM_all s.E .unit y.2 [] k (by omega)
            refine .inr ⟨hno', fun k hk => hBno k (σ0s k i hk).1 (by rw [σlo k (σ0s k i hk).1]; exact (σ0s k i hk).2), ?_⟩
            have hil := (List.getElem?_eq_some_iff.1 hi).1
            rcases f6 i hil with h' | ⟨k, c1, c2, c3⟩
            · rw [f4 i h' fun k _ hk => hBno k hk] at hi
              exact subB'_get.1 hi
            · rw [Nat.zero_add] at c3
              exact absurd (by rw [hpb1]; exact bkM_all s.E .unit y.2 [] k c1) (hno' k c3))
        (fun i hl => f7 i (by rw [subB'_len]; exact ltl hl) ((pbl i).2 hl))
        (fun k i hk hl => by
          obtain ⟨b1, hb1⟩ := hl
          rw [hpb1] at hb1
          exact ⟨_, f5 k b1 i hb1 (by rw [Nat.zero_add]; exact hk) js q3⟩)
        q2 (fun j hn => k3.left j hn) (fun n j hn => k3.gone n j hn)
        (fun j hj n hn => (someD_s.1.1 hj) (someN_iff.2 ⟨n, hn⟩)) (fun j p hp => someD_s.2 p hp) hb1
        (fun k b hb => by
          cases hf : fr with
          | true => exact okfL_true _
          | false => rw [hpb1] at hb; exact (hokE hf).1 k b hb)
        (fun hf => by have := (hokQ hf).2; rw [← hmk] at this; exact this)
      refine Nxt.ret q1 M (hL_subL S _ hts) ?_ X
      rw [q4 js (Pre.refl _)]
      refine DV.ren_h tr r ?_ hrv
      cases hf : fr with
      | true => exact DV.okf_true r
      | false => have := (hokQ hf).1; rw [← hmk] at this; exact this
    · cases h
  · cases h
end
end Go.Vc
