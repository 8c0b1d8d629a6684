import Derived.Test.YtclleaffonkegaaGreatB3
namespace Go.Vc
open Go Go.RowKit
mutual
theorem PK.view_ex (rw : List DR) : (p : PK) → (u : DV) → ∃ u', ∀ {β : Type} (K : DV → Option β), p.view rw u K = K u'
  | .v t, u => ⟨u.sub (viewD rw), fun K => by simp only [PK.view, DV.subE_eq]⟩
  | .row e t, u => ⟨u, fun K => by cases u <;> rfl⟩
  | .ptr k, u => ⟨u, fun K => by cases u <;> rfl⟩
  | .fn g l, u => by
    cases u with
    | fn g' cs => obtain ⟨us, h⟩ := viewL_ex rw l cs; exact ⟨.fn g' us, fun K => by simp only [PK.view]; rw [h]⟩
    | _ => exact ⟨_, fun K => rfl⟩
  | .agg l, u => by
    cases u with
    | agg cs => obtain ⟨us, h⟩ := viewL_ex rw l cs; exact ⟨.agg us, fun K => by simp only [PK.view]; rw [h]⟩
    | _ => exact ⟨_, fun K => rfl⟩
  | .fns l, u => by
    cases u with
    | fns cs => obtain ⟨us, h⟩ := viewL_ex rw l cs; exact ⟨.fns us, fun K => by simp only [PK.view]; rw [h]⟩
    | _ => exact ⟨_, fun K => rfl⟩
  | .nil n, u => ⟨u, fun K => by cases u <;> rfl⟩
theorem viewL_ex (rw : List DR) : (l : List PK) → (us : List DV) → ∃ us', ∀ {β : Type} (K : List DV → Option β), viewL rw l us K = K us'
  | [], us => ⟨us, fun K => rfl⟩
  | _ :: _, [] => ⟨[], fun K => rfl⟩
  | p :: l, u :: us => by
    obtain ⟨u', h1⟩ := PK.view_ex rw p u
    obtain ⟨us', h2⟩ := viewL_ex rw l us
    exact ⟨u' :: us', fun K => by simp only [viewL]; rw [h1, h2]⟩
end
section
variable {P : Program} {T : List TI} {V : World} {U0 L : Nat → Prop} {al : Nat → Bool} {B : Nat → Nat} {A : Asg} {ts : List DV} {pb : DBs} {rw : List DR} {a : Act} {w : World} {β : Type} {q : β} {o : Oper} {K : DK β} {Q : Exit → Act → World → Prop} {C : ESs} {av : List (Nat × Nat)}
def OD.obj? : OD → Option (List KU)
  | .set ks => some ks
  | _ => none
/-- rows of one's own, read as they stand -/
theorem Mem.viewE (m : Mem V U0 L B A pb rw w) {U' : Nat → Prop} {h : Nat → Prop} (hU : ∀ b, U' b → Us U0 B A pb rw b) (hn : ∀ j, ¬ h j → ∀ b, U' b → ¬ blk B A pb rw true j b) (f : Nat → Option DV) (hf : ∀ j, (h j ∧ f j = (viewD rw j).map fun _ => .junk) ∨ (¬ h j ∧ f j = viewD rw j)) :
    Sub f (env U0 B A pb rw w) ⟨U', w, B, A, pb, rw⟩ := by
  have hnone : ∀ j, f j = none → viewD rw j = none := fun j hj => by
    rcases hf j with ⟨_, h⟩ | ⟨_, h⟩
    · rw [hj] at h; simpa using h.symm
    · rw [← h]; exact hj
  refine ⟨⟨fun _ _ _ => rfl, Nat.le_refl _, fun b _ h => hU b h⟩, fun i h => ⟨h, rfl⟩, fun j e t l hj hr => ?_, fun j d _ h => ⟨⟨d, h, rfl⟩, rfl⟩, fun j p e t l hj hr => ?_, fun j p d ad hj hr ha => ?_⟩
  · have := hnone j hj
    have hr : rw[j]? = some (.own e t l) := hr
    rw [viewD_n hr] at this; cases this
  · have hr : rw[j]? = some (.own e t l) := hr
    rcases hf j with ⟨_, h⟩ | ⟨h0, h⟩
    · rw [hj, viewD_n hr] at h; simp only [Option.map_some, Option.some.injEq] at h; subst h; simp only [DV.h]
    · rw [hj, viewD_n hr] at h; simp only [Option.some.injEq] at h; subst h
      simp only [DV.h]
      exact m.viewRow hr hU (hn j h0)
  · have hr : rw[j]? = some (.obj d) := hr
    have hv : viewD rw j = match (OD.obj? d) with | some ks => some (.set ks) | none => none := by
      unfold viewD; rw [drV_spec, hr]; cases d <;> rfl
    cases d with
    | set ks =>
      rcases hf j with ⟨_, h⟩ | ⟨h0, h⟩
      · rw [hj, hv] at h; simp only [OD.obj?, Option.map_some, Option.some.injEq] at h; subst h; simp only [DV.h]
      · rw [hj, hv] at h; simp only [OD.obj?, Option.some.injEq] at h; subst h
        simp only [DV.h]
        exact m.viewSet hr ha (hn j h0)
    | _ => rcases hf j with ⟨_, h⟩ | ⟨h0, h⟩ <;> (rw [hj, hv] at h; simp [OD.obj?] at h)
theorem callM_ok {g : FuncId} {s : MU} {xs : List DV} {vs : List Value} (hs : MUok P g s) (h : callM stdW s xs ts pb rw (fun r ts pb rw => retE o.dst r ts pb rw K) = some q) (m : Mem V U0 L B A pb rw w) (hts : hL (env U0 B A pb rw w) ts a.tmps.toList) (hxs : hL (env U0 B A pb rw w) xs vs)
    (hrun : (execOp a.eval o).run P w = (callFunc g vs.toArray).run P w) : o.wp P a w (Nxt V U0 L al B A pb rw w a K q) Q := by
  unfold callM at h
  split at h
  · rename_i j ys
    split at h
    · rename_i e t l hj
      rw [drV_spec] at hj
      split at h
      · rename_i hh z ms hck hsame hX
        split at h
        · rename_i hrs
          subst hh
          obtain ⟨l', hl', h⟩ := call_s h
          rw [setE_eq] at h
          simp only [Bool.and_eq_true] at hck
          obtain ⟨hck, hfree⟩ := hck
          have he := Nat.eq_of_beq_eq_true hck
          subst he
          have hl' : s.fn l z = some l' := hl'
          obtain ⟨hlen, hc⟩ := hs l z l' hl'
          simp only [hL, DV.h] at hxs
          obtain ⟨v0, vs', rfl, ⟨e1, t1, l1, hj1, rfl⟩, hys⟩ := hxs
          have hj1 : rw[j]? = some (.own e1 t1 l1) := hj1
          rw [hj] at hj1; simp only [Option.some.injEq, DR.own.injEq] at hj1
          obtain ⟨rfl, rfl, hl1⟩ := hj1
          cases hl1
          obtain ⟨m0, hU, hr1, _⟩ := m.lend (σ := fun _ => none) (rs := [some j]) (bor := fun _ => False) (pb0 := []) (rw0 := [.own s.e s.t l]) (by simp) (by simp) (by simp)
            (fun n r hr => by
              cases n with
              | zero => simp at hr; subst hr; exact .inl ⟨j, _, _, _, rfl, hj, rfl⟩
              | succ n => simp at hr)
            (fun n n' k h1 h2 => by
              cases n with
              | zero => cases n' with
                | zero => rfl
                | succ n' => simp at h2
              | succ n => simp at h1)
          obtain ⟨z0, m1, rw1, k1, _, _, _, _, k6⟩ := pkX_s (am := []) (E := env U0 B A pb rw w) s.P .unit ys ⟨[], rw⟩ _ [] z ms hX (MI.nil (env U0 B A pb rw w))
          have hA0 : lA A [some j] 0 = A j := rfl
          have hLb : ∀ b, Ow (lB B fun _ => none) (lA A [some j]) [] [.own s.e s.t l] b → blk B A pb rw true j b := by
            rintro b ⟨k, i, hb⟩
            cases k with
            | false => obtain ⟨⟨_, hb⟩, _⟩ := hb; simp at hb
            | true =>
              obtain ⟨j', h1, h2⟩ := hr1 i b hb
              cases i with
              | zero => simp at h1; subst h1; exact h2
              | succ i => simp at h1
          refine call_wp hrun (hc _ _ _ _ w m0 ?_) ?_
          · simp only [hL, DV.h]
            refine ⟨_, _, rfl, ⟨_, _, _, rfl, by show _ = Value.slice (lA A [some j] 0).1 _ (lA A [some j] 0).2; rw [hA0]; rfl⟩, k6 _ _ ?_ ?_ hys⟩
            · simp only [Option.some.injEq, Prod.mk.injEq] at k1
              exact ⟨[], by rw [k1.2, List.append_nil]⟩
            · refine ⟨⟨fun _ _ _ => rfl, Nat.le_refl _, fun b _ hu => hU b hu⟩, fun k i hk => (by simp [lkA] at hk), fun n j' e t l hn => (by rw [hrs] at hn; simp at hn), fun n hn => (by rw [hrs] at hn; simp at hn)⟩
          · rintro v w' ⟨rfl, m'⟩
            have hlt := (List.getElem?_eq_some_iff.1 hj).1
            obtain ⟨m2, s2, e2⟩ := m.putRow (al := al) (j := j) (f := noF) (rw' := rw.set j (.own s.e s.t l')) (e := s.e) (t := s.t) (l := l') (a := (A j).1) (c := (A j).2) (w' := w')
              (by rw [List.getElem?_set, if_pos rfl, if_pos hlt]) (fun k hk => by rw [List.getElem?_set, if_neg (Ne.symm hk)]) (fun _ _ h => by cases h)
              (fun _ e4 t4 l4 h4 => by
                rw [hj] at h4; simp only [Option.some.injEq, DR.own.injEq] at h4
                obtain ⟨rfl, rfl, h4⟩ := h4
                cases h4
                exact ⟨_, by rw [List.getElem?_set, if_pos rfl, if_pos hlt], hlen, rfl⟩)
              (fun _ d h4 => by rw [hj] at h4; cases h4) ⟨m'.os, m'.tape, m'.output, m'.size⟩
              (fun b hb hnb => m'.same b hb fun h => hnb (hLb b h))
              (fun x hx => .inl ⟨_, x, hj, by simp, hx, rfl⟩)
              (fun U' lt => by
                obtain ⟨xs, h1, h2⟩ := m'.row 0 s.e s.t l' rfl
                rw [hA0] at h1
                exact ⟨xs, h1, h2.1, fun i x hi => s.t.h_free hfree (h2.2 i x hi)⟩)
            rw [show upd A j ((A j).1, (A j).2) = A from upd_eta A j] at m2 s2 e2
            rw [subB'_no] at m2 s2 e2
            exact Nxt.ret h m2 (noSub s2 hts) (by simp only [DV.h, hL]; exact ⟨#[], rfl, rfl⟩) e2
        · cases h
      · cases h
    · cases h
  · cases h
theorem callC_ok {g : FuncId} {c : EC} {xs : List DV} {vs : List Value} (hc : ECok P g c) (h : callC stdW c al xs ts pb rw (fun r ts pb rw => retE o.dst r ts pb rw K) = some q) (m : Mem V U0 L B A pb rw w) (hts : hL (env U0 B A pb rw w) ts a.tmps.toList) (hxs : hL (env U0 B A pb rw w) xs vs)
    (hrun : (execOp a.eval o).run P w = (callFunc g vs.toArray).run P w) : o.wp P a w (Nxt V U0 L al B A pb rw w a K q) Q := by
  unfold callC at h
  split at h
  · rename_i s
    exact callM_ok (show MUok P g s from hc) h m hts hxs hrun
  · rename_i s
    have hs : ESok P g s := hc
    split at h
    · rename_i hfree
      rw [subLE_eq] at h
      have sv := m.viewE (U' := lU (Us U0 B A pb rw) B A rw (fun _ => False) (fun _ => True)) (h := fun _ => False) (fun b h => h.1) (fun j _ b h hb => h.2.2 ⟨j, trivial, hb⟩) (viewD rw) (fun j => .inr ⟨id, rfl⟩)
      exact esF_ok false (fun _ => True) hs h m hts (hL_subL sv xs hxs) (fun h => by cases h) (fun _ => hfree) hrun
    · obtain ⟨ts1, pb1, rw1, ps, h, m1, hts1, hps, e1, _⟩ := frzE_s (al := al) _ h m hts hxs
      have s1 : Sub noF (env U0 B A pb1 rw1 w) ⟨lU (Us U0 B A pb1 rw1) B A rw1 (fun _ => False) (fun _ => False), w, B, A, pb1, rw1⟩ :=
        ⟨⟨fun _ _ _ => rfl, Nat.le_refl _, fun b _ h => h.1⟩, fun i h => ⟨h, rfl⟩, fun j e t l _ h => ⟨l, h, rfl, rfl⟩, fun j d _ h => ⟨⟨d, h, rfl⟩, rfl⟩, fun j p e t l h => (by cases h), fun j p d ad h => (by cases h)⟩
      have := esF_ok (al := al) (Q := Q) true (fun _ => False) hs h m1 hts1 (noSub s1 hps) (fun _ j h => h) (fun h => by cases h) hrun
      exact wp_mono0 this fun a' w' hn => Nxt.more e1 rfl hn
  · rename_i s
    have hs : LSok P g s := hc
    dsimp only at h
    split at h
    · rename_i hfree
      simp only [Bool.and_eq_true] at hfree
      obtain ⟨ts1, pb1, rw1, xs1, h, m1, hts1, hxs1, e1, _⟩ := frzE_s (al := al) _ h m hts hxs
      obtain ⟨ys, hys⟩ := viewL_ex rw1 s.P xs1
      rw [hys] at h
      have := callE_ok (al := al) (Q := Q) false hs h m1 hts1 (fun bor _ hb => by
        classical
        let f : Nat → Option DV := fun j => if bor j then viewD rw1 j else (viewD rw1 j).map fun _ => .junk
        have sv := m1.viewE (U' := fun b => Us U0 B A pb1 rw1 b ∧ ¬ ∃ j, bor j ∧ blk B A [] rw1 true j b) (h := fun j => ¬ bor j) (fun b h => h.1) (fun j hj b h hbl => h.2 ⟨j, Classical.not_not.1 hj, hbl⟩) f (fun j => by
          by_cases hbj : bor j
          · exact .inr ⟨Classical.not_not.2 hbj, if_pos hbj⟩
          · exact .inl ⟨hbj, if_neg hbj⟩)
        have s0 : Sub noF (env U0 B A pb1 rw1 w) ⟨fun b => Us U0 B A pb1 rw1 b ∧ ¬ ∃ j, bor j ∧ blk B A [] rw1 true j b, w, B, A, pb1, rw1⟩ :=
          ⟨⟨fun _ _ _ => rfl, Nat.le_refl _, fun b _ h => h.1⟩, fun i h => ⟨h, rfl⟩, fun j e t l _ h => ⟨l, h, rfl, rfl⟩, fun j d _ h => ⟨⟨d, h, rfl⟩, rfl⟩, fun j p e t l h => (by cases h), fun j p d ad h => (by cases h)⟩
        obtain ⟨⟨us, h1, h2, _⟩, _⟩ := viewL_s (q := ys) sv s0 (fun j => by
          show (if bor j then viewD rw1 j else (viewD rw1 j).map fun _ => DV.junk).isSome = _
          split
          · rfl
          · simp) s.P xs1 [] (fun l => some l) (fun j hj => if_pos (hb rfl j hj)) (hys some)
        simp only [Option.some.injEq] at h1; subst h1
        exact h2 vs hxs1) (fun _ => hfree) hrun
      exact wp_mono0 this fun a' w' hn => Nxt.more e1 rfl hn
    · obtain ⟨ts1, pb1, rw1, xs1, h, m1, hts1, hxs1, e1, _⟩ := frzE_s (al := al) _ h m hts hxs
      have := callE_ok (al := al) (Q := Q) true hs h m1 hts1 (fun bor hb _ => by
        have s1 : Sub noF (env U0 B A pb1 rw1 w) ⟨fun b => Us U0 B A pb1 rw1 b ∧ ¬ ∃ j, bor j ∧ blk B A [] rw1 true j b, w, B, A, pb1, rw1⟩ :=
          ⟨⟨fun _ _ _ => rfl, Nat.le_refl _, fun b _ h => h.1⟩, fun i h => ⟨h, rfl⟩, fun j e t l _ h => ⟨l, h, rfl, rfl⟩, fun j d _ h => ⟨⟨d, h, rfl⟩, rfl⟩, fun j p e t l h => (by cases h), fun j p d ad h => (by cases h)⟩
        exact noSub s1 hxs1) (fun h => by cases h) hrun
      exact wp_mono0 this fun a' w' hn => Nxt.more e1 rfl hn
theorem callL_ok {g : FuncId} {xs : List DV} {vs : List Value} (hts : hL (env U0 B A pb rw w) ts a.tmps.toList) (m : Mem V U0 L B A pb rw w) (hxs : hL (env U0 B A pb rw w) xs vs) (hrun : (execOp a.eval o).run P w = (callFunc g vs.toArray).run P w) :
    ∀ (l : List EC), (∀ c ∈ l, ECok P g c) → callL stdW al xs ts pb rw (fun r ts pb rw => retE o.dst r ts pb rw K) l = some q → o.wp P a w (Nxt V U0 L al B A pb rw w a K q) Q
  | [], _, h => by cases h
  | c :: l, hl, h => by
    unfold callL at h
    split at h
    · exact callC_ok (hl c (List.mem_cons_self ..)) h m hts hxs hrun
    · rename_i d l'
      have h : orF (callC stdW c al xs ts pb rw (fun r ts pb rw => retE o.dst r ts pb rw K)) (callL stdW al xs ts pb rw (fun r ts pb rw => retE o.dst r ts pb rw K) (d :: l')) = some q := h
      unfold orF at h
      split at h
      · rename_i x hx
        simp only [Option.some.injEq] at h; subst h
        exact callC_ok (hl c (List.mem_cons_self ..)) hx m hts hxs hrun
      · exact callL_ok hts m hxs hrun (d :: l') (fun c hc => hl c (List.mem_cons_of_mem _ hc)) h
theorem callV_ok {g : FuncId} {xs : List DV} {vs : List Value} (hC : CsOk P C) (h : callV stdW C al g xs ts pb rw (fun r ts pb rw => retE o.dst r ts pb rw K) = some q) (m : Mem V U0 L B A pb rw w) (hts : hL (env U0 B A pb rw w) ts a.tmps.toList) (hxs : hL (env U0 B A pb rw w) xs vs)
    (hrun : (execOp a.eval o).run P w = (callFunc g vs.toArray).run P w) : o.wp P a w (Nxt V U0 L al B A pb rw w a K q) Q :=
  callL_ok hts m hxs hrun _ (fun _ hc => esL_s hC hc) h
theorem op_call {c : Call} (hT : TableOk P T) (hC : CsOk P C) (ho : o.op = .call c) (h : evOp stdW T C al av o ts pb rw K = some q) (m : Mem V U0 L B A pb rw w) (hts : hL (env U0 B A pb rw w) ts a.tmps.toList) : o.wp P a w (Nxt V U0 L al B A pb rw w a K q) Q := by
  cases hcal : c.callee with
  | value f =>
    have h0 := h
    simp only [evOp, ho, hcal] at h
    split at h
    · rename_i g caps xs hf hx
      have hf := opV_h hf hts
      have hx := opsV_h hx hts
      simp only [DV.h] at hf
      obtain ⟨cv, hfv, hcv⟩ := hf
      split at h
      · rename_i hb
        refine callV_ok hC h m hts (hL_app hcv hx) ?_
        rw [call_first ho hcal (hfv.trans (fnV_t hb cv))]
        congr 2
        apply Array.ext'
        simp
      · rename_i hb
        refine callV_ok hC h m hts (hL_app hx hcv) ?_
        rw [call_resolve ho hcal (hfv.trans (fnV_f hb cv))]
        congr 2
        apply Array.ext'
        simp
    · cases h
  | invoke r s => simp only [evOp, ho, hcal] at h; cases h
  | builtin b =>
    have h0 := h
    simp only [evOp, ho, hcal] at h
    split at h
    · rename_i xs hops
      have hxs := opsV_h hops hts
      cases b with
      | append => exact op_append hT ho hcal hxs h0 hops m hts
      | clear => exact op_clear hT ho hcal hxs h0 hops m hts
      | copy => exact op_copy hT ho hcal hxs h0 hops m hts
      | _ => exact nxt_pure (pu_builtin hT ho hcal rfl hxs h) m hts Ext.refl
    · cases h
/-- AN OPERATION -/
theorem evOp_ok (hT : TableOk P T) (hC : CsOk P C) (h : evOp stdW T C al av o ts pb rw K = some q) (m : Mem V U0 L B A pb rw w) (hts : hL (env U0 B A pb rw w) ts a.tmps.toList) : o.wp P a w (Nxt V U0 L al B A pb rw w a K q) Q := by
  have h0 := h
  unfold evOp at h
  cases ho : o.op with
  | alloc t => exact op_alloc hT ho h0 m hts
  | box t x => exact op_box ho h0 m hts
  | load t x => exact op_load hT ho h0 m hts
  | store t x y => exact op_store hT ho h0 m hts
  | call c => exact op_call hT hC ho h0 m hts
  | buildSlice t l p => exact op_buildSlice hT ho h0 m hts
  | slice t x lo hi mx => exact op_slice hT ho h0 m hts
  | makeSlice t l c => exact op_makeSlice hT ho h0 m hts
  | index t x i => exact op_index hT ho h0 m hts
  | range t x => exact op_range hT ho h0 m hts
  | next x b => exact op_next ho h0 m hts
  | makeMap t r => exact op_makeMap hT ho h0 m hts
  | mapUpdate t x y z => exact op_mapUpdate hT ho h0 m hts
  | entry x => exact op_entry ho h0 m hts
  | lookup t x y c => exact op_lookup hT ho h0 m hts
  | convert s d x => exact op_convert hT ho h0 m hts
  | _ => rw [ho] at h; exact nxt_pure (purE_ok hT ho hts rfl m.rowsA h) m hts Ext.refl
end
end Go.Vc

namespace Go.Vc
open Go Go.RowKit
/-- slots that are not written -/
def SameOut (wr : List Nat) (a a' : Act) : Prop := a'.tmps.size = a.tmps.size ∧ ∀ i, i ∉ wr → a'.tmps[i]? = a.tmps[i]?
theorem SameOut.refl (wr : List Nat) (a : Act) : SameOut wr a a := ⟨rfl, fun _ _ => rfl⟩
theorem SameOut.trans {wr : List Nat} {a b c : Act} (h : SameOut wr a b) (k : SameOut wr b c) : SameOut wr a c := ⟨k.1.trans h.1, fun i hi => (k.2 i hi).trans (h.2 i hi)⟩
theorem SameOut.mono {wr wr' : List Nat} {a b : Act} (h : SameOut wr a b) (hs : ∀ i ∈ wr, i ∈ wr') : SameOut wr' a b := ⟨h.1, fun i hi => h.2 i fun hm => hi (hs i hm)⟩

theorem SameOut.put (a : Act) (o : Oper) (v : Value) : SameOut (dstL o) a (a.put o.dst v) := by
  unfold dstL
  cases o.dst with
  | none => exact SameOut.refl _ _
  | some d => exact ⟨by simp [Act.put], fun i hi => by simp only [List.mem_singleton] at hi; simp [Act.put, Array.getElem?_setIfInBounds_ne (Ne.symm hi)]⟩

/-- an operation writes its own slot alone -/
theorem wp_out {P : Program} {o : Oper} {a : Act} {w : World} {N : Act → World → Prop} {Q : Exit → Act → World → Prop} (hd : o.wp P a w N Q) : o.wp P a w (fun a' w' => N a' w' ∧ SameOut (dstL o) a a') Q := by
  unfold Oper.wp at *
  generalize (execOp a.eval o).run P w = r at *
  cases r with
  | ok n w' =>
    cases n <;> simp only [Oper.upon] at hd ⊢
    case value v => exact ⟨hd, SameOut.put a o v⟩
    case skip => exact ⟨hd, SameOut.put a o _⟩
    case defer d => exact ⟨hd, SameOut.put { a with defers := d :: a.defers } o undef⟩
    case enter f args =>
      refine hd.mono fun e w'' he => ?_
      cases e with
      | returned v => exact ⟨he, SameOut.put a o v⟩
      | panicked c => exact he
      | outgrown => exact he
    case row row args => exact Rows.mono hd fun v w'' he => ⟨he, SameOut.put a o v⟩
  | halt x w' =>
    cases x <;> simp only [Oper.upon] at hd ⊢
    case panic u => exact hd

theorem nthDst_eq (ops : List Oper) (j : Nat) : nthDst ops j = (ops[j]?).bind (·.dst) := by
  induction ops generalizing j with
  | nil => rfl
  | cons o ops ih => cases j <;> simp [nthDst, ih]
section
variable {P : Program} {T : List TI} {V : World} {U0 L : Nat → Prop} {al : Nat → Bool} {B : Nat → Nat} {A : Asg} {ts : List DV} {pb : DBs} {rw : List DR} {a : Act} {w : World} {β : Type} [EqB β] {q : β} {o : Oper} {K : DK β} {Q : Exit → Act → World → Prop} {C : ESs} {av : List (Nat × Nat)}
theorem nilq_ok {op : BinOp} {t ty e2 : TypeId} {x y : Operand} {e neg : Bool} {ti : TI} {aa : Option Addr} {n c : Nat} (ho : o.op = .binOp op t x y ty) (hf : TFacts P t ti) (htd : ti.td = .slice e2) (ev : a.eval x = .slice aa n c) (hy : a.eval y = .slice none 0 0)
    (hne : e = false → aa.isNone = false) (hop : op = (if neg then BinOp.neq else BinOp.eql)) (h : (stdW.nilq e fun g => retE o.dst (.bool (notIf neg g)) ts pb rw K) = some q) (m : Mem V U0 L B A pb rw w) (hts : hL (env U0 B A pb rw w) ts a.tmps.toList) : o.wp P a w (Nxt V U0 L al B A pb rw w a K q) Q := by
  have hrun := run_eq_slc (P := P) neg x y aa n c w (td_slice hf htd)
  have hg : retE o.dst (.bool (notIf neg aa.isNone)) ts pb rw K = some q := by
    change nilF e (fun g => retE o.dst (.bool (notIf neg g)) ts pb rw K) = some q at h
    unfold nilF at h
    rcases bif_s h with ⟨_, h⟩ | ⟨he, h⟩
    · have := both_s h
      cases aa.isNone
      · exact this.2
      · exact this.1
    · rw [hne he]; exact h
  refine wp_of_value (v := .bool (notIf neg aa.isNone)) ?_ (Nxt.ret hg m hts (by simp only [DV.h]) Ext.refl)
  simp only [execOp, ho, ev, hy, hop]
  rw [Sem.run_bind, hrun]; simp
theorem evOpN_ok (hT : TableOk P T) (hC : CsOk P C) (h : evOpN stdW T C al av o ts pb rw K = some q) (m : Mem V U0 L B A pb rw w) (hts : hL (env U0 B A pb rw w) ts a.tmps.toList) : o.wp P a w (Nxt V U0 L al B A pb rw w a K q) Q := by
  unfold evOpN at h
  split at h
  · rename_i e neg hn
    unfold nilQ at hn
    split at hn
    · rename_i op t x y ty ho
      split at hn
      · rename_i d l ht hx hy
        split at hn
        · rename_i hd0
          obtain ⟨ti, hf, htd⟩ := tdV_f hT ht
          have hx := opV_h hx hts
          have hy := opV_h hy hts
          simp only [DV.h] at hx hy
          obtain ⟨aa, c, ev, _, _, hel⟩ := hx
          simp only [List.cons.injEq, and_true] at ev
          have key := fun neg hop h => nilq_ok (P := P) (B := B) (A := A) (V := V) (U0 := U0) (L := L) (al := al) (Q := Q) (ts := ts) (pb := pb) (rw := rw) (w := w) (K := K) (q := q) (e := l.isEmpty) (neg := neg) (op := op) ho hf htd ev hy (fun he => by
            cases l with
            | nil => simp at he
            | cons z l =>
              obtain ⟨us, h1, h2⟩ := hel 0 z rfl
              have hd : 0 < d.size := Nat.le_of_ble_eq_true hd0
              have hul := d.h_len h1
              obtain ⟨ad, rfl, _⟩ := h2 0 _ (List.getElem?_eq_getElem (by omega))
              rfl) hop h m hts
          split at hn
          · simp only [Option.some.injEq, Prod.mk.injEq] at hn; obtain ⟨rfl, rfl⟩ := hn; exact key false rfl h
          · simp only [Option.some.injEq, Prod.mk.injEq] at hn; obtain ⟨rfl, rfl⟩ := hn; exact key true rfl h
          · cases hn
        · cases hn
      · rename_i j ht hx hy
        split at hn
        · rename_i e' t' l hrj
          rw [drV_spec] at hrj
          obtain ⟨ti, hf, htd⟩ := tdV_f hT ht
          have hx := opV_h hx hts
          have hy := opV_h hy hts
          simp only [DV.h] at hx hy
          obtain ⟨e3, t3, l3, hj3, ev⟩ := hx
          have hj3 : rw[j]? = some (.own e3 t3 l3) := hj3
          rw [hrj] at hj3; simp only [Option.some.injEq, DR.own.injEq] at hj3
          obtain ⟨rfl, rfl, hl3⟩ := hj3
          cases hl3
          have key := fun neg hop h => nilq_ok (P := P) (B := B) (A := A) (V := V) (U0 := U0) (L := L) (al := al) (Q := Q) (ts := ts) (pb := pb) (rw := rw) (w := w) (K := K) (q := q) (e := l.isEmpty) (neg := neg) (op := op) ho hf htd ev hy (fun he => by
            cases hA : ((env U0 B A pb rw w).A j).1 with
            | some ad => rfl
            | none =>
              have := m.rowsA j e' t' l hrj hA
              cases l with
              | nil => simp at he
              | cons z l => simp at this) hop h m hts
          split at hn
          · simp only [Option.some.injEq, Prod.mk.injEq] at hn; obtain ⟨rfl, rfl⟩ := hn; exact key false rfl h
          · simp only [Option.some.injEq, Prod.mk.injEq] at hn; obtain ⟨rfl, rfl⟩ := hn; exact key true rfl h
          · cases hn
        · cases hn
      · cases hn
    · cases hn
  · split at h
    · rename_i j ks dn hp; exact op_pick hp h m hts
    · exact evOp_ok hT hC h m hts
theorem evOpT_ok {rest : List Oper} (hT : TableOk P T) (hC : CsOk P C) (h : evOpT stdW T C al av o rest ts pb rw K = some q) (m : Mem V U0 L B A pb rw w) (hts : hL (env U0 B A pb rw w) ts a.tmps.toList) : o.wp P a w (Nxt V U0 L al B A pb rw w a K q) Q := by
  unfold evOpT at h
  split at h
  · rename_i j i n htq
    unfold tailQ at htq
    split at htq
    · split at htq
      · rename_i t x lo ho
        split at htq
        · rename_i e jj k ii ht hx hlo
          split at htq
          · rename_i te e2 t' l hte hj
            rw [drV_spec] at hj
            split at htq
            · rename_i hsz
              simp only [Option.some.injEq, Prod.mk.injEq] at htq
              obtain ⟨rfl, rfl, rfl⟩ := htq
              have hsz := Nat.eq_of_beq_eq_true hsz
              obtain ⟨b1, b2, h⟩ := bnd_s h
              obtain ⟨ti, hf, htd⟩ := tdV_f hT ht
              have hun := td_slice hf htd
              have hfe := tiV_f hT hte
              have hx := opV_h hx hts
              have hlo := opV_h hlo hts
              simp only [DV.h] at hx hlo
              obtain ⟨e3, t3, l3, hj3, ev⟩ := hx
              have hj3' : rw[jj]? = some (.own e3 t3 l3) := hj3
              rw [hj] at hj3'; simp only [Option.some.injEq, DR.own.injEq] at hj3'
              obtain ⟨rfl, rfl, hl3⟩ := hj3'
              cases hl3
              change a.eval x = Value.slice (A jj).1 l.length (A jj).2 at ev
              refine wp_of_value (v := .slice (if (A jj).2 = ii.toNat then (A jj).1 else (A jj).1.map (·.add (ii.toNat * t'.size))) (l.length - ii.toNat) ((A jj).2 - ii.toNat)) ?_ (Nxt.ret h m hts ?_ Ext.refl)
              · have hr : (execOp a.eval o).run P w = ((Instr.sliceAt t (a.eval x) (some (a.eval lo)) none none).run P w).andThen fun v w' => .ok (.value v) w' := by
                  simp only [execOp, ho, Sem.run_bind, Sem.run_pure, Option.map_some, Option.map_none]
                rw [hr, ev, hlo]
                simp only [Instr.sliceAt, Instr.slice, Sem.run_bind, run_underlying hun, Result.andThen_ok, Instr.sliceBounds, Sem.run_pure, Option.isSome_none, Bool.false_eq_true, if_false, run_sliceBound w k ii _ .sliceB b1 b2, td_size hfe, hsz]
              · simp only [DV.h]
                exact ⟨_, _, _, hj3, by omega, rfl⟩
            · cases htq
          · cases htq
        · cases htq
      · cases htq
    · cases htq
  · exact evOpN_ok hT hC h m hts
omit [EqB β] in
theorem guardD_ok {ops : Array Oper} {E : Env} {j : Nat} {want : Bool} {yes no : List DV → Option β} (h : guardD stdW ops.toList ts j want yes no = some q) (hts : hL E ts a.tmps.toList) :
    ∃ ts', hL E ts' a.tmps.toList ∧ ((yielded ops a.tmps j = some want ∧ yes ts' = some q) ∨ (yielded ops a.tmps j ≠ some want ∧ no ts' = some q)) := by
  unfold guardD at h
  rw [nthDst_eq] at h
  have hy : ∀ d, (ops[j]?).bind (·.dst) = some d → yielded ops a.tmps j = match a.tmps[d]? with | some (.bool b) => some b | _ => none := by
    intro d hd; unfold yielded; rw [hd]; rfl
  split at h
  · cases h
  · rename_i d hd
    have hy := hy d (by simpa using hd)
    have get : ∀ (c : Bool), ((a.tmps.toList[d]?).getD undef) = .bool c → yielded ops a.tmps j = some c ∧ a.tmps.toList.set d (.bool c) = a.tmps.toList := by
      intro c hc
      cases hq : a.tmps[d]? with
      | none => simp only [Array.getElem?_toList, hq] at hc; simp [undef] at hc
      | some v =>
        simp only [Array.getElem?_toList, hq, Option.getD_some] at hc; subst hc
        refine ⟨by rw [hy, hq], ?_⟩
        apply List.ext_getElem?
        intro i
        rw [List.getElem?_set]
        split
        · rename_i hdi; subst hdi
          have := (Array.getElem?_eq_some_iff.1 hq).1
          simp [this]
          exact (Array.getElem?_eq_some_iff.1 hq).2.symm
        · rfl
    have keep : ∀ (c : Bool), ((a.tmps.toList[d]?).getD undef) = .bool c → hL E (ts.set d (.lit c)) a.tmps.toList := by
      intro c hc
      have := hL_set hts d (p := .lit c) (v := .bool c) (by simp only [DV.h])
      rwa [(get c hc).2] at this
    split at h
    · rename_i hg
      have hv := gtV_h hg hts
      simp only [DV.h] at hv
      have hg := (get true hv).1
      cases want
      · exact ⟨ts, hts, .inr ⟨by rw [hg]; simp, h⟩⟩
      · exact ⟨ts, hts, .inl ⟨hg, h⟩⟩
    · rename_i hg
      have hv := gtV_h hg hts
      simp only [DV.h] at hv
      have hg := (get false hv).1
      cases want
      · exact ⟨ts, hts, .inl ⟨hg, h⟩⟩
      · exact ⟨ts, hts, .inr ⟨by rw [hg]; simp, h⟩⟩
    · rename_i b hg
      have hv := gtV_h hg hts
      simp only [DV.h] at hv
      have hgb := (get b hv).1
      simp only [setE_eq] at h
      rcases cnd_s h with ⟨rfl, h⟩ | ⟨rfl, h⟩
      · cases want
        · exact ⟨_, keep true hv, .inr ⟨by rw [hgb]; simp, h⟩⟩
        · exact ⟨_, keep true hv, .inl ⟨hgb, h⟩⟩
      · cases want
        · exact ⟨_, keep false hv, .inl ⟨hgb, h⟩⟩
        · exact ⟨_, keep false hv, .inr ⟨by rw [hgb]; simp, h⟩⟩
    · rename_i hg
      have hv := gtV_h hg hts
      simp only [DV.h] at hv
      refine ⟨ts, hts, .inr ⟨?_, h⟩⟩
      rw [hy]
      cases hq : a.tmps[d]? with
      | none => simp
      | some v =>
        simp only [Array.getElem?_toList, hq, Option.getD_some] at hv; subst hv; simp [undef]
    · cases h
omit [EqB β] in
theorem Nxt.mono {K' : DK β} {a' : Act} {w' : World} {q' : β} (h : Nxt V U0 L al B A pb rw w a K q a' w') (k : ∀ B' A' ts' pb' rw', Mem V U0 L B' A' pb' rw' w' → hL (env U0 B' A' pb' rw' w') ts' a'.tmps.toList → K ts' pb' rw' = some q → K' ts' pb' rw' = some q') : Nxt V U0 L al B A pb rw w a K' q' a' w' :=
  let ⟨B', A', ts', pb', rw', m, h1, h2, h3, h4⟩ := h
  ⟨B', A', ts', pb', rw', m, h1, k B' A' ts' pb' rw' m h1 h2, h3, h4⟩
theorem evList_ok (hT : TableOk P T) (hC : CsOk P C) {ops : Array Oper} : ∀ (l : List Oper) {B : Nat → Nat} {A : Asg} {ts : List DV} {pb : DBs} {rw : List DR} {a : Act} {w : World}, evList stdW T C al av ops.toList l ts pb rw K = some q → Mem V U0 L B A pb rw w → hL (env U0 B A pb rw w) ts a.tmps.toList →
    (∀ a' w', Nxt V U0 L al B A pb rw w a K q a' w' → SameOut (dsts l) a a' → Q .normal a' w') → wpList P ops Q l a w
  | [], B, A, ts, pb, rw, a, w, h, m, hts, hQ => wpList_nil (hQ a w ⟨B, A, ts, pb, rw, m, hts, h, rfl, Ext.refl⟩ (SameOut.refl _ _))
  | o :: rest, B, A, ts, pb, rw, a, w, h, m, hts, hQ => by
    have go : ∀ {K1 : DK β}, (∀ ts pb rw, K1 ts pb rw = some q → evList stdW T C al av ops.toList rest ts pb rw K = some q) → o.wp P a w (Nxt V U0 L al B A pb rw w a K1 q) Q → o.wp P a w (wpList P ops Q rest) Q := by
      intro K1 hK1 h1
      refine Oper.wp_mono (fun a' w' hn => ?_) (wp_out h1)
      obtain ⟨⟨B', A', ts', pb', rw', m', h2, h3, h4, e⟩, hso⟩ := hn
      refine evList_ok hT hC rest (hK1 _ _ _ h3) m' h2 fun a'' w'' hn' hso' => hQ a'' w'' (Nxt.more e h4 hn') ?_
      exact (hso.mono (by intro i hi; simp [dsts, hi])).trans (hso'.mono (by intro i hi; simp [dsts, hi]))
    unfold evList at h
    split at h
    · rename_i hg
      unfold wpList
      rw [if_pos (by simp [Region.wanted, hg])]
      exact .inl (go (fun _ _ _ h => h) (evOpT_ok hT hC h m hts))
    · rename_i j want hg
      obtain ⟨ts', hr, hc⟩ := guardD_ok h hts
      unfold wpList
      have hw : Region.wanted o (yielded ops a.tmps) = (yielded ops a.tmps j == some want) := by simp [Region.wanted, hg]
      rcases hc with ⟨hy, hc⟩ | ⟨hy, hc⟩
      · rw [if_pos (by rw [hw, hy]; simp)]
        exact .inl (go (fun _ _ _ h => h) (evOpN_ok hT hC hc m hr))
      · rw [if_neg (by rw [hw]; simpa using hy)]
        obtain ⟨ts'', h1, h2, h3⟩ := retE_s hc hr (x := .und) (v := undef) (by simp only [DV.h])
        refine evList_ok hT hC rest h1 m h2 fun a'' w'' hn' hso' => hQ a'' w'' (Nxt.more Ext.refl h3 hn') ?_
        exact ((SameOut.put a o undef).mono (by intro i hi; simp [dsts, hi])).trans (hso'.mono (by intro i hi; simp [dsts, hi]))
end
end Go.Vc

namespace Go.Vc
open Go Go.RowKit
section
variable {P : Program} {T : List TI} {V : World} {U0 L : Nat → Prop} {al : Nat → Bool} {B : Nat → Nat} {A : Asg} {ts : List DV} {pb : DBs} {rw : List DR} {a : Act} {w : World} {β : Type} [EqB β] {q : β} {o : Oper} {K : DK β} {Q : Exit → Act → World → Prop} {C : ESs} {av : List (Nat × Nat)}
/-- where code leads to -/
def Nx (V : World) (U0 L : Nat → Prop) (B : Nat → Nat) (pb : DBs) (a : Act) (K : DK β) (q : β) : Act → World → Prop := fun a' w' =>
  ∃ B' A' ts' pb' rw', Mem V U0 L B' A' pb' rw' w' ∧ hL (env U0 B' A' pb' rw' w') ts' a'.tmps.toList ∧ K ts' pb' rw' = some q ∧ a'.defers = a.defers ∧ ∀ i, live pb i → live pb' i ∧ B' i = B i
omit [EqB β] in
theorem Nxt.nx {a' : Act} {w' : World} (h : Nxt V U0 L al B A pb rw w a K q a' w') : Nx V U0 L B pb a K q a' w' :=
  let ⟨B', A', ts', pb', rw', m, h1, h2, h3, h4⟩ := h
  ⟨B', A', ts', pb', rw', m, h1, h2, h3, h4.bx⟩
/-- boxes that are not yet made -/
theorem Mem.places (m : Mem V U0 L B A pb rw w) {pb' : DBs} (h : ∀ (i : Nat) (b : DB), pb'[i]? = some (some b) ↔ pb[i]? = some (some b)) : Mem V U0 L B A pb' rw w ∧ Sub noF (env U0 B A pb rw w) (env U0 B A pb' rw w) ∧ ∀ i, live pb' i ↔ live pb i := by
  have hl : ∀ i, live pb' i ↔ live pb i := fun i => ⟨fun ⟨b, hb⟩ => ⟨b, (h i b).1 hb⟩, fun ⟨b, hb⟩ => ⟨b, (h i b).2 hb⟩⟩
  have hb : ∀ k i b, blk B A pb' rw k i b → blk B A pb rw k i b := fun k i b hh => by
    cases k with
    | true => exact hh
    | false => exact ⟨(hl i).1 hh.1, hh.2⟩
  obtain ⟨m', s, _⟩ := m.step (al := fun _ => true) noF (w' := w) (B' := B) (A' := A) (pb' := pb') (rw' := rw) ⟨rfl, rfl, rfl, Nat.le_refl _⟩ (fun _ _ _ => rfl) (fun k i b hh => .inl (hb k i b hh)) (fun k i k' i' b h1 h2 => m.inj _ _ _ _ _ (hb _ _ _ h1) (hb _ _ _ h2))
    (fun i hh => ⟨(hl i).2 hh, rfl⟩) (fun j e t l _ hh => ⟨l, hh, rfl, rfl⟩) (fun j d _ h => ⟨⟨d, h, rfl⟩, rfl⟩) (fun _ j p e t l hh => (by cases hh)) (fun _ j p d ad hh => (by cases hh)) (fun _ i b' hh => .inl ⟨b', (h i b').1 hh, rfl, by rw [subL_no], id, rfl⟩) (fun _ j e t l hh => .inl ⟨hh, rfl, fun _ _ => rfl⟩) fun _ j d hh => .inl ⟨hh, rfl, fun _ _ => rfl⟩
  exact ⟨m', s, hl⟩
omit [EqB β] in
theorem placesE_s : ∀ (os : List Oper) (pb : DBs) (n : Nat) {K : List (Nat × Nat) → DBs → Option β}, placesE os pb n K = some q → ∃ av pb', K av pb' = some q ∧ ∃ l : DBs, pb' = pb ++ l ∧ ∀ x ∈ l, x = none
  | [], pb, n, K, h => ⟨[], pb, h, [], by simp, by simp⟩
  | o :: os, pb, n, K, h => by
    have push : ∀ (K' : List (Nat × Nat) → DBs → Option β), placesE os (pb ++ [none]) (n + 1) K' = some q → (∃ av pb', K' av pb' = some q ∧ ∃ l : DBs, pb' = pb ++ l ∧ ∀ x ∈ l, x = none) := fun K' h' => by
      obtain ⟨av, pb', h1, l, h2, h3⟩ := placesE_s os _ _ h'
      exact ⟨av, pb', h1, none :: l, by rw [h2]; simp, fun x hx => (List.mem_cons.1 hx).elim id (h3 x)⟩
    simp only [placesE] at h
    split at h
    · rw [pushE_eq] at h
      obtain ⟨av, pb', h1, h2⟩ := push _ h
      rw [litE_eq] at h1
      exact ⟨_, pb', h1, h2⟩
    · rw [pushE_eq] at h
      obtain ⟨av, pb', h1, h2⟩ := push _ h
      rw [litE_eq] at h1
      exact ⟨_, pb', h1, h2⟩
    · exact placesE_s os pb n h
theorem nthO_s : ∀ {ops : List Oper} {i : Nat}, nthO ops i = ops[i]?
  | [], i => by simp [nthO]
  | o :: os, 0 => rfl
  | o :: os, i + 1 => by simp only [nthO, List.getElem?_cons_succ]; exact nthO_s
theorem dstL_mem : ∀ {ops : List Oper} {i : Nat} {o : Oper}, ops[i]? = some o → ∀ d ∈ dstL o, d ∈ dsts ops
  | [], i, o, h => by simp at h
  | p :: ops, i, o, h => by
    intro d hd
    simp only [dsts, List.mem_append]
    cases i with
    | zero => simp at h; subst h; exact .inl hd
    | succ i => exact .inr (dstL_mem (by simpa using h) d hd)
end
section
variable {P : Program} {T : List TI} {V : World} {U0 L : Nat → Prop} {al : Nat → Bool} {β : Type} [EqB β] {q : β} {K : DK β} {C : ESs} {av : List (Nat × Nat)} {ops : Array Oper} {Ia : List Nat} {sn : Nat → Bool}
  {B0 : Nat → Nat} {A0 : Asg} {pb0 : DBs} {rw0 : List DR} {a0 : Act} {w0 : World}
def QD (V : World) (U0 L : Nat → Prop) (al : Nat → Bool) (B0 : Nat → Nat) (A0 : Asg) (pb0 : DBs) (rw0 : List DR) (w0 : World) (a0 : Act) (K : DK β) (q : β) (ops : Array Oper) : Exit → Act → World → Prop := fun e a' w' => match e with
  | .normal => Nxt V U0 L al B0 A0 pb0 rw0 w0 a0 K q a' w' ∧ SameOut (dsts ops.toList) a0 a'
  | _ => False
/-- what lies still as long as the region goes on -/
def SD (al : Nat → Bool) (B0 : Nat → Nat) (A0 : Asg) (pb0 : DBs) (rw0 : List DR) (w0 : World) : World → Prop := fun w' => ∀ b, b < w0.heap.size → ¬ Wr al B0 A0 pb0 rw0 b → w'.heap[b]? = w0.heap[b]?
structure At0 (al : Nat → Bool) (ops : Array Oper) (B0 : Nat → Nat) (A0 : Asg) (pb0 : DBs) (rw0 : List DR) (w0 : World) (a0 : Act) (ph : Bool) (B : Nat → Nat) (A : Asg) (pb : DBs) (rw : List DR) (w : World) (a : Act) : Prop where
  ext : Ext al B0 A0 pb0 rw0 w0 B A pb rw w
  out : SameOut (dsts ops.toList) a0 a
  df : a.defers = a0.defers
  ph0 : ph = false → B = B0 ∧ A = A0 ∧ pb = pb0 ∧ rw = rw0 ∧ w = w0
omit [EqB β] in
theorem rdE_ok (hT : TableOk P T) (hal : ∀ i, live pb0 i → memN i Ia = false → al i = false) (hsn : ∀ i, sn i = true → live pb0 i ∧ al i = false) {ph : Bool} {B : Nat → Nat} {A : Asg} {ts : List DV} {pb : DBs} {rw : List DR} {a : Act} {w : World} {o : Oper} {ret : DV → Option β}
    (h : rdE stdW T Ia sn ph o ts pb rw ret = some q) (m0 : Mem V U0 L B0 A0 pb0 rw0 w0) (m : Mem V U0 L B A pb rw w) (hts : hL (env U0 B A pb rw w) ts a.tmps.toList) (s : At0 al ops B0 A0 pb0 rw0 w0 a0 ph B A pb rw w a) :
    ∃ r v, ret r = some q ∧ r.h (env U0 B A pb rw w) v ∧ ∀ w', SD al B0 A0 pb0 rw0 w0 w' → (execOp a.eval o).run P w' = .ok (.value v) w' := by
  have still : ∀ b, b < w0.heap.size → ¬ Wr al B0 A0 pb0 rw0 b → ∀ w', SD al B0 A0 pb0 rw0 w0 w' → w'.heap[b]? = w.heap[b]? := fun b hb hn w' hs => by rw [hs b hb hn, s.ext.fr b hb hn]
  have own : ∀ i, live pb0 i → al i = false → B i < w0.heap.size ∧ ¬ Wr al B0 A0 pb0 rw0 (B i) := fun i hl ha => by
    have hb := (s.ext.bx i hl).2
    have hbl : blk B0 A0 pb0 rw0 false i (B i) := ⟨hl, hb.symm⟩
    refine ⟨(m0.low _ _ _ hbl).1, ?_⟩
    rintro (⟨i', h1, h2⟩ | ⟨j, h2⟩)
    · have := (m0.inj _ _ _ _ _ hbl h2).2; subst this; rw [ha] at h1; cases h1
    · have := (m0.inj _ _ _ _ _ hbl h2).1; cases this
  unfold rdE at h
  split at h
  · rename_i t x ho
    have fin : ∀ (p : DV), opV ts x = some p → loadE stdW T t p pb rw ret = some q → (∀ ad : Addr, a.eval x = .pointer (some ad) → ((∃ i off, p = .own i off ∧ blk B A pb rw false i ad.block) ∨ (∃ t x off, p = .el t x off ∧ ¬ Us U0 B A pb rw ad.block ∧ ad.block < w.heap.size) ∨ (∃ j i off, p = .re j i off) ∨ ∃ l k, p = .fp l k) → ad.block < w0.heap.size ∧ ¬ Wr al B0 A0 pb0 rw0 ad.block) →
        ∃ r v, ret r = some q ∧ r.h (env U0 B A pb rw w) v ∧ ∀ w', SD al B0 A0 pb0 rw0 w0 w' → (execOp a.eval o).run P w' = .ok (.value v) w' := by
      intro p hp hl hbk
      obtain ⟨r, u, ad, hv, h1, h2, h3, h4⟩ := loadE_ok hT m hl (opV_h hp hts)
      obtain ⟨g1, g2⟩ := hbk ad hv h4
      exact ⟨r, u, h1, h2, fun w' hs => by rw [load_run ho, h3 w' (still _ g1 g2 w' hs)]; rfl⟩
    split at h
    · obtain ⟨p, hp, h⟩ := o1_s h
      split at h
      · rename_i haw
        obtain ⟨rfl, rfl, rfl, rfl, rfl⟩ := s.ph0 rfl
        refine fin p hp h fun ad hv hc => ?_
        rcases hc with ⟨i, off, rfl, hbl⟩ | ⟨t', x', off, rfl, hn, hlt⟩ | ⟨j, i, off, rfl⟩ | ⟨l, k, rfl⟩
        · have hi : memN i Ia = false := by
            simp only [awayV] at haw
            split at haw
            · assumption
            · cases haw
          have := own i hbl.1 (hal i hbl.1 hi)
          rw [hbl.2] at this; exact this
        · refine ⟨hlt, ?_⟩
          rintro (⟨i, _, hb⟩ | ⟨j, hb⟩)
          · exact hn (.inr ⟨_, i, hb⟩)
          · exact hn (.inr ⟨_, j, hb⟩)
        · simp [awayV] at haw
        · simp [awayV] at haw
      · cases h
    · obtain ⟨p, hp, h⟩ := o1_s h
      split at h
      · rename_i hse
        refine fin p hp h fun ad hv hc => ?_
        rcases hc with ⟨i, off, rfl, hbl⟩ | ⟨t', x', off, rfl, hn, _⟩ | ⟨j, i, off, rfl⟩ | ⟨l, k, rfl⟩
        · obtain ⟨g1, g2⟩ := hsn i hse
          have := own i g1 g2
          rw [hbl.2] at this; exact this
        · simp [seenV] at hse
        · simp [seenV] at hse
        · simp [seenV] at hse
      · cases h
  · obtain ⟨r, v, h1, h2, h3⟩ := purE_ok hT rfl hts rfl m.rowsA h
    exact ⟨r, v, h1, h2, fun w' _ => h3 w'⟩
theorem stepD_ok (hT : TableOk P T) (hC : CsOk P C) {i n : Nat} {ph : Bool} {Lk : Array Bool} {B : Nat → Nat} {A : Asg} {ts : List DV} {pb : DBs} {rw : List DR} {a : Act} {w : World} {o : Oper} {k : DK β} (hi : ops[i]? = some o)
    (h : stepD stdW T C al av ops.toList o ts pb rw k = some q) (m : Mem V U0 L B A pb rw w) (hts : hL (env U0 B A pb rw w) ts a.tmps.toList) (s : At0 al ops B0 A0 pb0 rw0 w0 a0 ph B A pb rw w a)
    (hk : ∀ B A ts pb rw a w, k ts pb rw = some q → Mem V U0 L B A pb rw w → hL (env U0 B A pb rw w) ts a.tmps.toList → At0 al ops B0 A0 pb0 rw0 w0 a0 true B A pb rw w a → wpAnyH P .any ops (QD V U0 L al B0 A0 pb0 rw0 w0 a0 K q ops) (SD al B0 A0 pb0 rw0 w0) n (Lk.setIfInBounds i true) a w) :
    wpOp P ops (QD V U0 L al B0 A0 pb0 rw0 w0 a0 K q ops) i (fun a' w' => SD al B0 A0 pb0 rw0 w0 w' ∧ wpAnyH P .any ops (QD V U0 L al B0 A0 pb0 rw0 w0 a0 K q ops) (SD al B0 A0 pb0 rw0 w0) n (Lk.setIfInBounds i true) a' w') a w := by
  have hmem := dstL_mem (ops := ops.toList) (i := i) (o := o) (by simpa using hi)
  have go : ∀ ts, hL (env U0 B A pb rw w) ts a.tmps.toList → Region.wanted o (yielded ops a.tmps) = true → evOpN stdW T C al av o ts pb rw k = some q →
      wpOp P ops (QD V U0 L al B0 A0 pb0 rw0 w0 a0 K q ops) i (fun a' w' => SD al B0 A0 pb0 rw0 w0 w' ∧ wpAnyH P .any ops (QD V U0 L al B0 A0 pb0 rw0 w0 a0 K q ops) (SD al B0 A0 pb0 rw0 w0) n (Lk.setIfInBounds i true) a' w') a w := by
    intro ts hts hwt h
    unfold Go.wpOp
    simp only [hi, hwt, if_true]
    refine .inl (Oper.wp_mono (fun a' w' hn => ?_) (wp_out (evOpN_ok (al := al) hT hC h m hts)))
    obtain ⟨⟨B', A', ts', pb', rw', m', h1, h2, h3, e⟩, hso⟩ := hn
    have e' := s.ext.trans e
    exact ⟨fun b hb hnb => e'.fr b hb hnb, hk B' A' ts' pb' rw' a' w' h2 m' h1 ⟨e', s.out.trans (hso.mono hmem), h3.trans s.df, fun h => by cases h⟩⟩
  have skip : ∀ ts, hL (env U0 B A pb rw w) ts a.tmps.toList → Region.wanted o (yielded ops a.tmps) = false → retE o.dst .und ts pb rw k = some q →
      wpOp P ops (QD V U0 L al B0 A0 pb0 rw0 w0 a0 K q ops) i (fun a' w' => SD al B0 A0 pb0 rw0 w0 w' ∧ wpAnyH P .any ops (QD V U0 L al B0 A0 pb0 rw0 w0 a0 K q ops) (SD al B0 A0 pb0 rw0 w0) n (Lk.setIfInBounds i true) a' w') a w := by
    intro ts hts hwt h
    obtain ⟨ts', h1, h2, h3⟩ := retE_s h hts (x := .und) (v := undef) (by simp only [DV.h])
    unfold Go.wpOp
    simp only [hi, hwt, Bool.false_eq_true, if_false]
    exact ⟨fun b hb hnb => s.ext.fr b hb hnb, hk B A ts' pb rw _ w h1 m h2 ⟨s.ext, s.out.trans ((SameOut.put a o undef).mono hmem), h3.trans s.df, fun h => by cases h⟩⟩
  unfold stepD at h
  split at h
  · rename_i hg
    exact go ts hts (by simp [Region.wanted, hg]) h
  · rename_i j want hg
    obtain ⟨ts', hr, hc⟩ := guardD_ok h hts
    have hw : Region.wanted o (yielded ops a.tmps) = (yielded ops a.tmps j == some want) := by simp [Region.wanted, hg]
    rcases hc with ⟨hy, hc⟩ | ⟨hy, hc⟩
    · exact go ts' hr (by rw [hw, hy]; simp) hc
    · exact skip ts' hr (by rw [hw]; simpa using hy) hc
theorem evT_ok (hT : TableOk P T) (hC : CsOk P C) (hns : Region.noSelect ops = true) (hal : ∀ i, live pb0 i → memN i Ia = false → al i = false) (hsn : ∀ i, sn i = true → live pb0 i ∧ al i = false) (m0 : Mem V U0 L B0 A0 pb0 rw0 w0) :
    ∀ (t : OT) (n : Nat) (Lk : Array Bool) (ph : Bool) (B : Nat → Nat) (A : Asg) (ts : List DV) (pb : DBs) (rw : List DR) (a : Act) (w : World), okT ops n t Lk = true → evT stdW T C al av Ia sn ops.toList ph t ts pb rw K = some q → Mem V U0 L B A pb rw w → hL (env U0 B A pb rw w) ts a.tmps.toList →
      At0 al ops B0 A0 pb0 rw0 w0 a0 ph B A pb rw w a → wpAnyH P .any ops (QD V U0 L al B0 A0 pb0 rw0 w0 a0 K q ops) (SD al B0 A0 pb0 rw0 w0) n Lk a w
  | .nil, n, Lk, ph, B, A, ts, pb, rw, a, w, hok, h, m, hts, s => by
    have hok : (Region.ready .any ops Lk).isEmpty = true := by cases n <;> simpa [okT] using hok
    simp only [List.isEmpty_iff] at hok
    simp only [evT] at h
    exact wpAnyH_done hok ⟨⟨B, A, ts, pb, rw, m, hts, h, s.df, s.ext⟩, s.out⟩ _
  | .rd i t, 0, Lk, ph, B, A, ts, pb, rw, a, w, hok, h, m, hts, s => by simp [okT] at hok
  | .op i t, 0, Lk, ph, B, A, ts, pb, rw, a, w, hok, h, m, hts, s => by simp [okT] at hok
  | .two i j ti tj, 0, Lk, ph, B, A, ts, pb, rw, a, w, hok, h, m, hts, s => by simp [okT] at hok
  | .three i j k ti tj tk, 0, Lk, ph, B, A, ts, pb, rw, a, w, hok, h, m, hts, s => by simp [okT] at hok
  | .four i j k l ti tj tk tl, 0, Lk, ph, B, A, ts, pb, rw, a, w, hok, h, m, hts, s => by simp [okT] at hok
  | .rd i t, n + 1, Lk, ph, B, A, ts, pb, rw, a, w, hok, h, m, hts, s => by
    simp only [okT, Bool.and_eq_true] at hok
    simp only [evT] at h
    split at h
    · rename_i o hi
      rw [nthO_s] at hi
      have hi : ops[i]? = some o := by simpa using hi
      have hmem := dstL_mem (ops := ops.toList) (i := i) (o := o) (by simpa using hi)
      have hS : SD al B0 A0 pb0 rw0 w0 w := fun b hb hnb => s.ext.fr b hb hnb
      have go : ∀ ts, hL (env U0 B A pb rw w) ts a.tmps.toList → Region.wanted o (yielded ops a.tmps) = true → (rdE stdW T Ia sn ph o ts pb rw fun x => retE o.dst x ts pb rw fun ts pb rw => evT stdW T C al av Ia sn ops.toList ph t ts pb rw K) = some q → wpAnyH P .any ops (QD V U0 L al B0 A0 pb0 rw0 w0 a0 K q ops) (SD al B0 A0 pb0 rw0 w0) (n + 1) Lk a w := by
        intro ts hts hwt h
        obtain ⟨r, v, h1, h2, h3⟩ := rdE_ok hT hal hsn h m0 m hts s
        obtain ⟨ts', g1, g2, g3⟩ := retE_s h1 hts h2
        refine wpAnyH_take hi hns hok.1.1 hok.1.2 (fun c a w hq => hq) (.inl ⟨hwt, fun w' hs => h3 w' hs⟩) hS ?_
        exact evT_ok hT hC hns hal hsn m0 t n _ ph B A ts' pb rw _ w hok.2 g1 m g2 ⟨s.ext, s.out.trans ((SameOut.put a o v).mono hmem), g3.trans s.df, s.ph0⟩
      have skip : ∀ ts, hL (env U0 B A pb rw w) ts a.tmps.toList → Region.wanted o (yielded ops a.tmps) = false → (retE o.dst .und ts pb rw fun ts pb rw => evT stdW T C al av Ia sn ops.toList ph t ts pb rw K) = some q → wpAnyH P .any ops (QD V U0 L al B0 A0 pb0 rw0 w0 a0 K q ops) (SD al B0 A0 pb0 rw0 w0) (n + 1) Lk a w := by
        intro ts hts hwt h
        obtain ⟨ts', g1, g2, g3⟩ := retE_s h hts (x := .und) (v := undef) (by simp only [DV.h])
        exact wpAnyH_take hi hns hok.1.1 hok.1.2 (fun c a w hq => hq) (.inr ⟨hwt, rfl⟩) hS (evT_ok hT hC hns hal hsn m0 t n _ ph B A ts' pb rw _ w hok.2 g1 m g2 ⟨s.ext, s.out.trans ((SameOut.put a o undef).mono hmem), g3.trans s.df, s.ph0⟩)
      split at h
      · rename_i hg
        exact go ts hts (by simp [Region.wanted, hg]) h
      · rename_i j want hg
        obtain ⟨ts', hr, hc⟩ := guardD_ok h hts
        have hw : Region.wanted o (yielded ops a.tmps) = (yielded ops a.tmps j == some want) := by simp [Region.wanted, hg]
        rcases hc with ⟨hy, hc⟩ | ⟨hy, hc⟩
        · exact go ts' hr (by rw [hw, hy]; simp) hc
        · exact skip ts' hr (by rw [hw]; simpa using hy) hc
    · cases h
  | .op i t, n + 1, Lk, ph, B, A, ts, pb, rw, a, w, hok, h, m, hts, s => by
    simp only [okT, Bool.and_eq_true, beq_iff_eq] at hok
    simp only [evT] at h
    split at h
    · rename_i o hi
      rw [nthO_s] at hi
      have hi : ops[i]? = some o := by simpa using hi
      refine wpAnyH_all hok.1 (by simp) fun j hj => ?_
      rw [List.mem_singleton.1 hj]
      exact stepD_ok hT hC hi h m hts s fun B A ts pb rw a w hk m hts s => evT_ok hT hC hns hal hsn m0 t n _ true B A ts pb rw a w hok.2 hk m hts s
    · cases h
  | .two i j ti tj, n + 1, Lk, ph, B, A, ts, pb, rw, a, w, hok, h, m, hts, s => by
    simp only [okT, Bool.and_eq_true, beq_iff_eq] at hok
    simp only [evT] at h
    split at h
    · rename_i o o' hi hj
      rw [nthO_s] at hi hj
      have hi : ops[i]? = some o := by simpa using hi
      have hj : ops[j]? = some o' := by simpa using hj
      obtain ⟨ha, hb⟩ := both_s h
      refine wpAnyH_all hok.1.1 (by simp) fun k hk => ?_
      simp only [List.mem_cons, List.not_mem_nil, or_false] at hk
      rcases hk with rfl | rfl
      · exact stepD_ok hT hC hi ha m hts s fun B A ts pb rw a w hk m hts s => evT_ok hT hC hns hal hsn m0 ti n _ true B A ts pb rw a w hok.1.2 hk m hts s
      · exact stepD_ok hT hC hj hb m hts s fun B A ts pb rw a w hk m hts s => evT_ok hT hC hns hal hsn m0 tj n _ true B A ts pb rw a w hok.2 hk m hts s
    · cases h
  | .three i j k ti tj tk, n + 1, Lk, ph, B, A, ts, pb, rw, a, w, hok, h, m, hts, s => by
    simp only [okT, Bool.and_eq_true, beq_iff_eq] at hok
    simp only [evT] at h
    split at h
    · rename_i o o' o2 hi hj hk
      rw [nthO_s] at hi hj hk
      have hi : ops[i]? = some o := by simpa using hi
      have hj : ops[j]? = some o' := by simpa using hj
      have hk : ops[k]? = some o2 := by simpa using hk
      obtain ⟨ha, hb⟩ := both_s h
      obtain ⟨hb, hc⟩ := both_s hb
      refine wpAnyH_all hok.1.1.1 (by simp) fun l hl => ?_
      simp only [List.mem_cons, List.not_mem_nil, or_false] at hl
      rcases hl with rfl | rfl | rfl
      · exact stepD_ok hT hC hi ha m hts s fun B A ts pb rw a w hk m hts s => evT_ok hT hC hns hal hsn m0 ti n _ true B A ts pb rw a w hok.1.1.2 hk m hts s
      · exact stepD_ok hT hC hj hb m hts s fun B A ts pb rw a w hk m hts s => evT_ok hT hC hns hal hsn m0 tj n _ true B A ts pb rw a w hok.1.2 hk m hts s
      · exact stepD_ok hT hC hk hc m hts s fun B A ts pb rw a w hk m hts s => evT_ok hT hC hns hal hsn m0 tk n _ true B A ts pb rw a w hok.2 hk m hts s
    · cases h
  | .four i j k l ti tj tk tl, n + 1, Lk, ph, B, A, ts, pb, rw, a, w, hok, h, m, hts, s => by
    simp only [okT, Bool.and_eq_true, beq_iff_eq] at hok
    simp only [evT] at h
    split at h
    · rename_i o o' o2 o3 hi hj hk hl
      rw [nthO_s] at hi hj hk hl
      have hi : ops[i]? = some o := by simpa using hi
      have hj : ops[j]? = some o' := by simpa using hj
      have hk : ops[k]? = some o2 := by simpa using hk
      have hl : ops[l]? = some o3 := by simpa using hl
      obtain ⟨ha, hb⟩ := both_s h
      obtain ⟨hb, hc⟩ := both_s hb
      obtain ⟨hc, hd⟩ := both_s hc
      refine wpAnyH_all hok.1.1.1.1 (by simp) fun x hx => ?_
      simp only [List.mem_cons, List.not_mem_nil, or_false] at hx
      rcases hx with rfl | rfl | rfl | rfl
      · exact stepD_ok hT hC hi ha m hts s fun B A ts pb rw a w hk m hts s => evT_ok hT hC hns hal hsn m0 ti n _ true B A ts pb rw a w hok.1.1.1.2 hk m hts s
      · exact stepD_ok hT hC hj hb m hts s fun B A ts pb rw a w hk m hts s => evT_ok hT hC hns hal hsn m0 tj n _ true B A ts pb rw a w hok.1.1.2 hk m hts s
      · exact stepD_ok hT hC hk hc m hts s fun B A ts pb rw a w hk m hts s => evT_ok hT hC hns hal hsn m0 tk n _ true B A ts pb rw a w hok.1.2 hk m hts s
      · exact stepD_ok hT hC hl hd m hts s fun B A ts pb rw a w hk m hts s => evT_ok hT hC hns hal hsn m0 tl n _ true B A ts pb rw a w hok.2 hk m hts s
    · cases h
end
end Go.Vc

namespace Go.Vc
open Go Go.RowKit
section
variable {P : Program} {T : List TI} {V : World} {U0 L : Nat → Prop} {B : Nat → Nat} {A : Asg} {ts : List DV} {pb : DBs} {rw : List DR} {a : Act} {w : World} {β : Type} [EqB β] {q : β} {K : DK β} {Q : Exit → Act → World → Prop} {C : ESs}
theorem hasE_s : ∀ {pb : DBs} {i : Nat}, hasE pb i = true → live pb i
  | [], i, h => by simp [hasE] at h
  | o :: pb, 0, h => by
    cases o with
    | none => simp [hasE] at h
    | some b => exact ⟨b, rfl⟩
  | o :: pb, i + 1, h => by
    obtain ⟨b, hb⟩ := hasE_s (pb := pb) (i := i) (by simpa [hasE] using h)
    exact ⟨b, by simpa using hb⟩
theorem alOf_s {Ia : List Nat} {n i : Nat} (hi : i < n) (hm : memN i Ia = false) : alOf Ia n i = false := by
  unfold alOf
  rw [hm]
  cases h : Nat.ble n i with
  | false => rfl
  | true => have := Nat.le_of_ble_eq_true h; omega
theorem live_lt {pb : DBs} {i : Nat} (h : live pb i) : i < pb.length := let ⟨_, h⟩ := h; (List.getElem?_eq_some_iff.1 h).1
theorem setBE_eq : ∀ (L : List Bool) (i : Nat) (K : List Bool → Bool), setBE L i K = K (L.set i true)
  | [], _, _ => rfl
  | _ :: _, 0, _ => rfl
  | b :: l, i + 1, K => by simp only [setBE, setBE_eq l i, List.set_cons_succ]
theorem okQ_s {ops : Array Oper} : ∀ (t : OT) (n : Nat) (L : List Bool), okQ ops n t L = true → okT ops n t L.toArray = true
  | .nil, n, L, h => by cases n <;> simpa [okT, okQ] using h
  | .rd i t, 0, L, h => by simp [okQ] at h
  | .op i t, 0, L, h => by simp [okQ] at h
  | .two .., 0, L, h => by simp [okQ] at h
  | .three .., 0, L, h => by simp [okQ] at h
  | .four .., 0, L, h => by simp [okQ] at h
  | .rd i t, n + 1, L, h => by
    simp only [okQ, Bool.and_eq_true, setBE_eq] at h
    simp only [okT, Bool.and_eq_true, List.setIfInBounds_toArray]
    exact ⟨h.1, okQ_s t n _ h.2⟩
  | .op i t, n + 1, L, h => by
    simp only [okQ, Bool.and_eq_true, setBE_eq] at h
    simp only [okT, Bool.and_eq_true, List.setIfInBounds_toArray]
    exact ⟨h.1, okQ_s t n _ h.2⟩
  | .two i j ti tj, n + 1, L, h => by
    simp only [okQ, Bool.and_eq_true, setBE_eq] at h
    simp only [okT, Bool.and_eq_true, List.setIfInBounds_toArray]
    exact ⟨⟨h.1.1, okQ_s ti n _ h.1.2⟩, okQ_s tj n _ h.2⟩
  | .three i j k ti tj tk, n + 1, L, h => by
    simp only [okQ, Bool.and_eq_true, setBE_eq] at h
    simp only [okT, Bool.and_eq_true, List.setIfInBounds_toArray]
    exact ⟨⟨⟨h.1.1.1, okQ_s ti n _ h.1.1.2⟩, okQ_s tj n _ h.1.2⟩, okQ_s tk n _ h.2⟩
  | .four i j k l ti tj tk tl, n + 1, L, h => by
    simp only [okQ, Bool.and_eq_true, setBE_eq] at h
    simp only [okT, Bool.and_eq_true, List.setIfInBounds_toArray]
    exact ⟨⟨⟨⟨h.1.1.1.1, okQ_s ti n _ h.1.1.1.2⟩, okQ_s tj n _ h.1.1.2⟩, okQ_s tk n _ h.1.2⟩, okQ_s tl n _ h.2⟩
theorem drawD_ok (hT : TableOk P T) (hC : CsOk P C) (hm : P.follows .mixedOrders = true) {O : DTs} {id : Nat} {ops : Array Oper} (h : drawD stdW T C O id ops ts pb rw K = some q) (m : Mem V U0 L B A pb rw w) (hts : hL (env U0 B A pb rw w) ts a.tmps.toList)
    (hQ : ∀ a' w', Nx V U0 L B pb a K q a' w' → SameOut (dsts ops.toList) a a' → Q .normal a' w') : (Code.region id ops true).wp P Q a w := by
  unfold drawD at h
  split at h
  · rename_i Ia t htr
    split at h
    · rename_i hok
      simp only [Bool.and_eq_true] at hok
      have hok : Region.noSelect ops = true ∧ okT ops ops.size t (Array.replicate ops.size false) = true := ⟨hok.1, by
        have := okQ_s t _ _ hok.2
        have e : (ops.toList.map fun _ => false).toArray = Array.replicate ops.size false := by
          apply Array.ext'
          show ops.toList.map (fun _ => false) = List.replicate ops.size false
          rw [List.map_const', Array.length_toList]
        rwa [e] at this⟩
      rw [litE_eq] at h
      obtain ⟨av, pb', h, l, hl, hnone⟩ := placesE_s _ _ _ h
      have hp : ∀ (i : Nat) (b : DB), pb'[i]? = some (some b) ↔ pb[i]? = some (some b) := by
        intro i b
        subst hl
        rcases Nat.lt_or_ge i pb.length with hi | hi
        · rw [List.getElem?_append_left hi]
        · rw [List.getElem?_append_right hi]
          constructor
          · intro hx
            have := hnone _ (List.mem_of_getElem? hx)
            cases this
          · intro hx
            have := (List.getElem?_eq_some_iff.1 hx).1
            omega
      obtain ⟨m1, s1, _⟩ := m.world (al := fun _ => true) (w' := { w with drawn := w.drawn + 1 }) ⟨rfl, rfl, rfl, Nat.le_refl _⟩ (fun _ _ => rfl)
      obtain ⟨m2, s2, hlive⟩ := m1.places hp
      have hts2 := noSub s2 (noSub s1 hts)
      have hlt : ∀ i, live pb' i → i < pb.length := fun i hi => live_lt ((hlive i).1 hi)
      have := evT_ok (al := alOf Ia pb.length) (Ia := Ia) (sn := snOf Ia (hasE pb)) (K := K) (q := q) hT hC hok.1 (fun i hi hmi => alOf_s (hlt i hi) hmi) (fun i hi => by
        unfold snOf at hi
        split at hi
        · cases hi
        · rename_i hmi
          have hli := (hlive i).2 (hasE_s hi)
          exact ⟨hli, alOf_s (hlt i hli) hmi⟩) m2 t _ _ false B A ts pb' rw a _ hok.2 h m2 hts2 ⟨Ext.refl, SameOut.refl _ _, rfl, fun _ => ⟨rfl, rfl, rfl, rfl, rfl⟩⟩
      refine wp_mono (wp_region_held hm this) fun e a' w' hq => ?_
      cases e with
      | normal =>
        obtain ⟨hn, hso⟩ := hq
        obtain ⟨B', A', ts', pb1, rw', m', h1, h2, h3, h4⟩ := hn.nx
        exact hQ _ _ ⟨B', A', ts', pb1, rw', m', h1, h2, h3, fun i hi => h4 i ((hlive i).2 hi)⟩ hso
      | _ => exact hq.elim
    · cases h
  · cases h
end
end Go.Vc

namespace Go.Vc
open Go Go.RowKit
/-! ### Joins -/
theorem clrB_get : ∀ {pb : DBs} {i : Nat} {b : DB}, (clrB pb)[i]? = some (some b) ↔ ∃ b0, pb[i]? = some (some b0) ∧ b = ⟨b0.ty, b0.cells, false⟩
  | [], i, b => by simp [clrB]
  | some b0 :: pb, 0, b => by
    simp only [clrB, List.getElem?_cons_zero, Option.some.injEq]
    exact ⟨fun h => ⟨b0, rfl, h.symm⟩, fun ⟨b1, h1, h2⟩ => by subst h1; exact h2.symm⟩
  | none :: pb, 0, b => by simp [clrB]
  | some b0 :: pb, i + 1, b => by simp only [clrB, List.getElem?_cons_succ]; exact clrB_get
  | none :: pb, i + 1, b => by simp only [clrB, List.getElem?_cons_succ]; exact clrB_get
theorem clrB_live {pb : DBs} {i : Nat} : live (clrB pb) i ↔ live pb i := by
  constructor
  · rintro ⟨b, h⟩; obtain ⟨b0, h0, _⟩ := clrB_get.1 h; exact ⟨b0, h0⟩
  · rintro ⟨b, h⟩; exact ⟨_, clrB_get.2 ⟨b, h, rfl⟩⟩
def flW (ps : DBs) (i : Nat) : Bool := match ps[i]? with | some (some a) => a.w | _ => true
theorem orW_get : ∀ {pb ps : DBs} {i : Nat} {b : DB}, (orW ps pb)[i]? = some (some b) ↔ ∃ b0, pb[i]? = some (some b0) ∧ b = ⟨b0.ty, b0.cells, b0.w || flW ps i⟩
  | [], ps, i, b => by simp [orW]
  | none :: pb, ps, 0, b => by simp [orW]
  | some b0 :: pb, ps, 0, b => by
    simp only [orW, List.getElem?_cons_zero, Option.some.injEq]
    cases ps with
    | nil => exact ⟨fun h => ⟨b0, rfl, h.symm⟩, fun ⟨b1, h1, h2⟩ => by subst h1; exact h2.symm⟩
    | cons p ps => cases p <;> exact ⟨fun h => ⟨b0, rfl, h.symm⟩, fun ⟨b1, h1, h2⟩ => by subst h1; exact h2.symm⟩
  | none :: pb, ps, i + 1, b => by
    simp only [orW, List.getElem?_cons_succ]
    rw [orW_get]
    have : flW ps.tail i = flW ps (i + 1) := by cases ps <;> simp [flW]
    rw [this]
  | some b0 :: pb, ps, i + 1, b => by
    simp only [orW, List.getElem?_cons_succ]
    rw [orW_get]
    have : flW ps.tail i = flW ps (i + 1) := by cases ps <;> simp [flW]
    rw [this]
theorem orW_live {pb ps : DBs} {i : Nat} : live (orW ps pb) i ↔ live pb i := by
  constructor
  · rintro ⟨b, h⟩; obtain ⟨b0, h0, _⟩ := orW_get.1 h; exact ⟨b0, h0⟩
  · rintro ⟨b, h⟩; exact ⟨_, orW_get.2 ⟨b, h, rfl⟩⟩
section
variable {V : World} {U0 L Lx : Nat → Prop} {B B' : Nat → Nat} {A A' : Asg} {pb pb' : DBs} {rw rw' : List DR} {w w' : World}
/-- other lists of boxes, the same that live -/
theorem live_sub {E : Env} {pb' : DBs} (hl : ∀ i, live pb' i ↔ live E.pb i) (hU : ∀ b, Us U0 E.B E.A pb' E.rw b → E.U b) : Sub noF E (env U0 E.B E.A pb' E.rw E.w) :=
  ⟨⟨fun _ _ _ => rfl, Nat.le_refl _, fun b _ h => hU b h⟩, fun i h => ⟨(hl i).2 h, rfl⟩, fun j e t l _ h => ⟨l, h, rfl, rfl⟩, fun j d _ h => ⟨⟨d, h, rfl⟩, rfl⟩, fun j q e t l h => (by cases h), fun j q d ad h => (by cases h)⟩
theorem blk_live (hl : ∀ i, live pb' i ↔ live pb i) {k : Bool} {i b : Nat} : blk B A pb' rw k i b ↔ blk B A pb rw k i b := by
  cases k with
  | true => exact Iff.rfl
  | false => exact ⟨fun h => ⟨(hl i).1 h.1, h.2⟩, fun h => ⟨(hl i).2 h.1, h.2⟩⟩
theorem Us_live (hl : ∀ i, live pb' i ↔ live pb i) {b : Nat} : Us U0 B A pb' rw b ↔ Us U0 B A pb rw b :=
  ⟨fun h => h.imp id fun ⟨k, i, h⟩ => ⟨k, i, (blk_live hl).1 h⟩, fun h => h.imp id fun ⟨k, i, h⟩ => ⟨k, i, (blk_live hl).2 h⟩⟩
theorem Mem.anchor (m : Mem V U0 L B A pb rw w) : Mem w U0 (Ow B A pb rw) B A (clrB pb) rw w ∧ Sub noF (env U0 B A pb rw w) (env U0 B A (clrB pb) rw w) := by
  have hl : ∀ i, live (clrB pb) i ↔ live pb i := fun i => clrB_live
  have s : Sub noF (env U0 B A pb rw w) (env U0 B A (clrB pb) rw w) := live_sub (U0 := U0) (E := env U0 B A pb rw w) hl fun b h => (Us_live hl).1 h
  refine ⟨⟨rfl, rfl, rfl, Nat.le_refl _, fun _ _ _ => rfl, fun b hb => ⟨Nat.lt_of_lt_of_le (m.u0 b hb).1 m.size, fun ⟨k, i, h⟩ => ?_⟩, fun k i b h => ?_, fun k i k' i' b h h' => m.inj _ _ _ _ _ ((blk_live hl).1 h) ((blk_live hl).1 h'), fun i b h => ?_, fun j e t l h => ?_, fun j d h => let ⟨b, o, g1, g2, g3⟩ := m.itr j d h; ⟨b, o, g1, g2, OD.mono s.later g3⟩⟩, s⟩
  · rcases (m.low k i b h).2 with g | g
    · have := (m.u0 b hb).1; omega
    · exact (m.u0 b hb).2 g
  · have h := (blk_live hl).1 h
    exact ⟨(m.low k i b h).1, .inr ⟨k, i, h⟩⟩
  · obtain ⟨b0, h0, rfl⟩ := clrB_get.1 h
    obtain ⟨cs, h1, h2, _⟩ := m.box i b0 h0
    exact ⟨cs, h1, noSub s h2, fun _ => ⟨(Array.getElem?_eq_some_iff.1 h1).1, rfl⟩⟩
  · obtain ⟨xs, h1, h2⟩ := m.row j e t l h
    exact ⟨xs, h1, DT.hs_mono s.later h2⟩
theorem Mem.low2 (m : Mem V U0 L B A pb rw w) (hL : ∀ b, Lx b ↔ Ow B A pb rw b) (mx : Mem w U0 Lx B' A' pb' rw' w') : ∀ k i b, blk B' A' pb' rw' k i b → b < w'.heap.size ∧ (V.heap.size ≤ b ∨ L b) := fun k i b h =>
  ⟨(mx.low k i b h).1, (mx.low k i b h).2.elim (fun h => .inl (Nat.le_trans m.size h)) fun h => let ⟨k, i, h⟩ := (hL b).1 h; (m.low k i b h).2⟩
theorem Mem.same2 (m : Mem V U0 L B A pb rw w) (hL : ∀ b, Lx b ↔ Ow B A pb rw b) (mx : Mem w U0 Lx B' A' pb' rw' w') : ∀ b, b < V.heap.size → ¬ L b → w'.heap[b]? = V.heap[b]? := fun b hb hn => by
  rw [mx.same b (Nat.lt_of_lt_of_le hb m.size) fun h => ?_, m.same b hb hn]
  obtain ⟨k, i, h⟩ := (hL b).1 h
  rcases (m.low k i b h).2 with h | h
  · omega
  · exact hn h
/-- an exit past a join, out of a loop -/
theorem Mem.out2 (m : Mem V U0 L B A pb rw w) (hL : ∀ b, Lx b ↔ Ow B A pb rw b) (mx : Mem w U0 Lx B' A' pb' rw' w') (hb : ∀ i, live pb i → B' i = B i) : Mem V U0 L B' A' (orW pb pb') rw' w' ∧ Sub noF (env U0 B' A' pb' rw' w') (env U0 B' A' (orW pb pb') rw' w') := by
  have hl : ∀ i, live (orW pb pb') i ↔ live pb' i := fun i => orW_live
  have s : Sub noF (env U0 B' A' pb' rw' w') (env U0 B' A' (orW pb pb') rw' w') := live_sub (U0 := U0) (E := env U0 B' A' pb' rw' w') hl fun b h => (Us_live hl).1 h
  refine ⟨⟨mx.os.trans m.os, mx.tape.trans m.tape, mx.output.trans m.output, Nat.le_trans m.size mx.size, m.same2 hL mx, m.u0, fun k i b h => m.low2 hL mx k i b ((blk_live hl).1 h), fun k i k' i' b h h' => mx.inj _ _ _ _ _ ((blk_live hl).1 h) ((blk_live hl).1 h'), fun i b h => ?_, fun j e t l h => ?_, fun j d h => let ⟨b, o, g1, g2, g3⟩ := mx.itr j d h; ⟨b, o, g1, g2, OD.mono s.later g3⟩⟩, s⟩
  · obtain ⟨b0, h0, rfl⟩ := orW_get.1 h
    obtain ⟨cs, h1, h2, h3⟩ := mx.box i b0 h0
    refine ⟨cs, h1, noSub s h2, fun hw => ?_⟩
    simp only [Bool.or_eq_false_iff] at hw
    obtain ⟨hw1, hw2⟩ := hw
    obtain ⟨g1, g2⟩ := h3 hw1
    unfold flW at hw2
    split at hw2
    · rename_i b1 hb1
      obtain ⟨cs1, _, _, h6⟩ := m.box i b1 hb1
      obtain ⟨g3, g4⟩ := h6 hw2
      rw [hb i ⟨_, hb1⟩] at g2 ⊢
      exact ⟨g3, g2.trans g4⟩
    · cases hw2
  · obtain ⟨xs, h1, h2⟩ := mx.row j e t l h
    exact ⟨xs, h1, DT.hs_mono s.later h2⟩
end
/-! what is carried -/
section
variable {β : Type} {q : β}
theorem cleanB_s {l : List Nat} : ∀ {n : Nat} {pb pb' : DBs}, cleanB l n pb pb' = true → ∀ i b, pb[i]? = some (some b) → ∃ b', pb'[i]? = some (some b') ∧ b.ty = b'.ty ∧ (memN (n + i) l = true ∨ b'.w = false)
  | _, [], _, _, i, b, hi => by simp at hi
  | n, none :: pb, [], h, i, b, hi => by simp [cleanB] at h
  | n, none :: pb, p' :: pb', h, i, b, hi => by
    cases i with
    | zero => simp at hi
    | succ i =>
      simp only [cleanB] at h
      obtain ⟨b', h1, h2, h3⟩ := cleanB_s h i b (by simpa using hi)
      exact ⟨b', by simpa using h1, h2, by rwa [show n + (i + 1) = n + 1 + i by omega]⟩
  | n, some c :: pb, [], h, i, b, hi => by simp [cleanB] at h
  | n, some c :: pb, none :: pb', h, i, b, hi => by simp [cleanB] at h
  | n, some c :: pb, some c' :: pb', h, i, b, hi => by
    simp only [cleanB, Bool.and_eq_true, Bool.or_eq_true, Bool.not_eq_true'] at h
    obtain ⟨⟨h1, h2⟩, h3⟩ := h
    cases i with
    | zero => simp at hi; subst hi; exact ⟨c', rfl, Nat.eq_of_beq_eq_true h1, h2⟩
    | succ i =>
      obtain ⟨b', g1, g2, g3⟩ := cleanB_s h3 i b (by simpa using hi)
      exact ⟨b', by simpa using g1, g2, by rwa [show n + (i + 1) = n + 1 + i by omega]⟩
theorem cleanB_clr {l : List Nat} : ∀ {n : Nat} {pb pb' : DBs}, cleanB l n (clrB pb) pb' = cleanB l n pb pb'
  | _, [], _ => rfl
  | n, none :: pb, [] => by simp only [clrB, cleanB]
  | n, none :: pb, p' :: pb' => by simp only [clrB, cleanB]; exact cleanB_clr
  | n, some c :: pb, [] => by simp only [clrB, cleanB]
  | n, some c :: pb, none :: pb' => by simp only [clrB, cleanB]
  | n, some c :: pb, some c' :: pb' => by simp only [clrB, cleanB]; rw [cleanB_clr]
theorem outD_clr {j : DJ} {pb pb' : DBs} {ts : List DV} {rw : List DR} {k : j.T.den → Option β} : outD j (clrB pb) ts pb' rw k = outD j pb ts pb' rw k := by unfold outD; rw [cleanB_clr]
theorem gtVs_h {E : Env} {ts : List DV} {us : List Value} (hts : hL E ts us) : ∀ {ns : List Nat} {vs : List DV}, gtVs ts ns = some vs → hL E vs (ns.map fun n => (us[n]?).getD undef)
  | [], vs, h => by simp only [gtVs, Option.some.injEq] at h; subst h; simp [hL]
  | n :: ns, vs, h => by
    simp only [gtVs] at h
    split at h
    · rename_i v vs' h1 h2
      simp only [Option.some.injEq] at h; subst h
      simp only [List.map_cons, hL]
      exact ⟨_, _, rfl, gtV_h h1 hts, gtVs_h hts h2⟩
    · cases h
structure RoS (ro : List RKd) (rs rw : List DR) : Prop where
  own : ∀ (n : Nat) (e : TypeId) (t : DT) (l : List t.den), rs[n]? = some (DR.own e t l) → rw[n]? = some (DR.own e t l) ∨ (l = [] ∧ (rw[n]? = none ∨ rw[n]? = some DR.dead))
  itr : ∀ (n : Nat) (d : OD), rs[n]? = some (DR.obj d) → ∃ d', rw[n]? = some (DR.obj d') ∧ d.isM = d'.isM ∧ ∀ U w o, d'.h U w o → d.h U w o
  isO : ∀ n : Nat, roN ro n = true → ∃ (e : TypeId) (t : DT) (l : List t.den), rs[n]? = some (DR.own e t l)
  isI : ∀ n : Nat, roI ro n = true → ∃ d : OD, rs[n]? = some (DR.obj d)
theorem roX_s : ∀ {ro : List RKd} {rw : List DR} {y : (roT ro).den}, roX ro rw = some y → RoS ro (roV ro y) rw
  | [], rw, y, h => ⟨fun n e t l h => by simp [roV] at h, fun n d h => by simp [roV] at h, fun n h => by simp [roN] at h, fun n h => by simp [roI] at h⟩
  | k :: ro, rw, y, h => by
    have up : ∀ {r : DR} {y' : (roT ro).den}, roX ro rw.tail = some y' → roV (k :: ro) y = r :: roV ro y' →
        (∀ (e : TypeId) (t : DT) (l : List t.den), r = DR.own e t l → rw[0]? = some (DR.own e t l) ∨ (l = [] ∧ (rw[0]? = none ∨ rw[0]? = some DR.dead))) → (∀ d : OD, r = DR.obj d → ∃ d', rw[0]? = some (DR.obj d') ∧ d.isM = d'.isM ∧ ∀ U w o, d'.h U w o → d.h U w o) → (roN (k :: ro) 0 = true → ∃ (e : TypeId) (t : DT) (l : List t.den), r = DR.own e t l) → (roI (k :: ro) 0 = true → ∃ d : OD, r = DR.obj d) →
        RoS (k :: ro) (roV (k :: ro) y) rw := by
      intro r y' hy he h1 h2 h3 h4
      obtain ⟨g1, g2, g3, g4⟩ := roX_s hy
      have ht : ∀ n, rw.tail[n]? = rw[n + 1]? := fun n => by cases rw <;> simp
      rw [he]
      refine ⟨fun n e t l hn => ?_, fun n d hn => ?_, fun n hn => ?_, fun n hn => ?_⟩
      · cases n with
        | zero => simp at hn; exact h1 e t l hn
        | succ n => have := g1 n e t l (by simpa using hn); rwa [ht] at this
      · cases n with
        | zero => simp at hn; exact h2 d hn
        | succ n => have := g2 n d (by simpa using hn); rwa [ht] at this
      · cases n with
        | zero => obtain ⟨e, t, l, rfl⟩ := h3 hn; exact ⟨e, t, l, rfl⟩
        | succ n => obtain ⟨e, t, l, h⟩ := g3 n (by simpa [roN] using hn); exact ⟨e, t, l, by simpa using h⟩
      · cases n with
        | zero => obtain ⟨d, rfl⟩ := h4 hn; exact ⟨d, rfl⟩
        | succ n => obtain ⟨d, h⟩ := g4 n (by simpa [roI] using hn); exact ⟨d, by simpa using h⟩
    cases k with
    | own e t =>
      unfold roX at h
      split at h
      · rename_i e' t' xs rw'
        split at h
        · rename_i ht y1 he hq hy
          have h := Option.some.inj h; subst h
          subst ht
          have he := Nat.eq_of_beq_eq_true he; subst he
          exact up hy rfl (fun e2 t2 l2 h => .inl (by rw [← h]; rfl)) (fun _ h => by cases h) (fun _ => ⟨_, _, _, rfl⟩) (fun h => by simp [roI] at h)
        · cases h
      · cases h
      · split at h
        · rename_i hy
          have h := Option.some.inj h; subst h
          exact up hy rfl (fun e2 t2 l2 h => .inr ⟨by cases h; rfl, .inr rfl⟩) (fun _ h => by cases h) (fun _ => ⟨_, _, _, rfl⟩) (fun h => by simp [roI] at h)
        · cases h
      · split at h
        · rename_i hy
          have h := Option.some.inj h; subst h
          exact up hy rfl (fun e2 t2 l2 h => .inr ⟨by cases h; rfl, .inl rfl⟩) (fun _ h => by cases h) (fun _ => ⟨_, _, _, rfl⟩) (fun h => by simp [roI] at h)
        · cases h
    | obj k =>
      unfold roX at h
      split at h
      · split at h
        · rename_i hk hy
          have h := Option.some.inj h; subst h
          exact up hy rfl (fun _ _ _ h => by cases h) (fun d h => by cases h; exact ⟨_, rfl, OKd.of_s hk⟩) (fun h => by simp [roN] at h) (fun _ => ⟨_, rfl⟩)
        · cases h
      · cases h
    | dead =>
      unfold roX at h
      exact up h rfl (fun _ _ _ h => by cases h) (fun _ h => by cases h) (fun h => by simp [roN] at h) (fun h => by simp [roI] at h)
theorem junkE_s : ∀ {xs : List DV} {bs : List Bool} {K : List DV → Option β}, junkE xs bs K = some q → ∃ l, K l = some q ∧ ∀ (E : Env) (vs : List Value), vs.length = xs.length → (∀ (i : Nat) (p : DV) (v : Value), bs[i]? = some false → xs[i]? = some p → vs[i]? = some v → p.h E v) → hL E l vs
  | [], [], K, h => ⟨[], h, fun E vs hl _ => by simp only [hL]; exact List.length_eq_zero_iff.1 (by simpa using hl)⟩
  | [], b :: bs, K, h => by simp [junkE] at h
  | x :: xs, [], K, h => by simp [junkE] at h
  | x :: xs, b :: bs, K, h => by
    simp only [junkE] at h
    split at h
    · obtain ⟨l, h1, h2⟩ := junkE_s h
      refine ⟨_, h1, fun E vs hl hh => ?_⟩
      cases vs with
      | nil => simp at hl
      | cons v vs => simp only [hL]; exact ⟨v, vs, rfl, by simp only [DV.h], h2 E vs (by simpa using hl) fun i p u g1 g2 g3 => hh (i + 1) p u (by simpa using g1) (by simpa using g2) (by simpa using g3)⟩
    · obtain ⟨l, h1, h2⟩ := junkE_s h
      refine ⟨_, h1, fun E vs hl hh => ?_⟩
      cases vs with
      | nil => simp at hl
      | cons v vs => simp only [hL]; exact ⟨v, vs, rfl, hh 0 x v rfl rfl rfl, h2 E vs (by simpa using hl) fun i p u g1 g2 g3 => hh (i + 1) p u (by simpa using g1) (by simpa using g2) (by simpa using g3)⟩
theorem maskOf_s {ws : List Nat} : ∀ {n i k : Nat} {b : Bool}, (maskOf ws n i)[k]? = some b → b = memN (i + k) ws
  | 0, i, k, b, h => by simp [maskOf] at h
  | n + 1, i, 0, b, h => by simp [maskOf] at h; exact h.symm
  | n + 1, i, k + 1, b, h => by
    have := maskOf_s (n := n) (i := i + 1) (k := k) (b := b) (by simpa [maskOf] using h)
    rwa [show i + (k + 1) = i + 1 + k by omega]
theorem set_get {us : List Value} {n : Nat} : us.set n ((us[n]?).getD undef) = us := by
  apply List.ext_getElem?
  intro i
  rw [List.getElem?_set]
  split
  · rename_i h; subst h
    split
    · rename_i h; simp [h]
    · rename_i h; rw [List.getElem?_eq_none (by omega)]
  · rfl
def setsL : List DV → List Nat → List DV → List DV
  | ts, n :: ns, v :: vs => setsL (ts.set n v) ns vs
  | ts, _, _ => ts
theorem setsE_eq : ∀ {ns : List Nat} {ts vs : List DV} {K : List DV → Option β}, setsE ts ns vs K = some q → K (setsL ts ns vs) = some q
  | [], ts, [], K, h => h
  | [], ts, v :: vs, K, h => by simp [setsE] at h
  | n :: ns, ts, [], K, h => by simp [setsE] at h
  | n :: ns, ts, v :: vs, K, h => by
    simp only [setsE, setE_eq] at h
    have h2 := setsE_eq h
    simpa only [setsL] using h2
theorem setsE_h {E : Env} {us : List Value} : ∀ {ns : List Nat} {ts vs : List DV}, hL E ts us → hL E vs (ns.map fun n => (us[n]?).getD undef) → hL E (setsL ts ns vs) us
  | [], ts, [], hts, hvs => hts
  | [], ts, v :: vs, hts, hvs => hts
  | n :: ns, ts, [], hts, hvs => hts
  | n :: ns, ts, v :: vs, hts, hvs => by
    simp only [List.map_cons, hL] at hvs
    obtain ⟨u, us', e, h1, h2⟩ := hvs
    simp only [List.cons.injEq] at e
    obtain ⟨rfl, rfl⟩ := e
    have := hL_set hts n h1
    rw [set_get] at this
    simp only [setsL]
    exact setsE_h this h2
theorem setBs_s : ∀ {is : List Nat} {pb : DBs} {cs : List (List DV)} {K : DBs → Option β}, setBs pb is cs K = some q → ∃ pb', K pb' = some q ∧ (∀ i, live pb' i ↔ live pb i) ∧
    ∀ i b, pb'[i]? = some (some b) → ∃ b0, pb[i]? = some (some b0) ∧ b.ty = b0.ty ∧ ((i ∉ is ∧ b = b0) ∨ ∃ (k : Nat) (c : List DV), is[k]? = some i ∧ cs[k]? = some c ∧ b.cells = c ∧ b.w = true)
  | [], pb, [], K, h => ⟨pb, h, fun _ => Iff.rfl, fun i b hb => ⟨b, hb, rfl, .inl ⟨by simp, rfl⟩⟩⟩
  | [], pb, c :: cs, K, h => by simp [setBs] at h
  | i0 :: is, pb, [], K, h => by simp [setBs] at h
  | i0 :: is, pb, c :: cs, K, h => by
    simp only [setBs] at h
    split at h
    · rename_i b0 hb0
      rw [dbV_spec] at hb0
      rw [setE_eq] at h
      obtain ⟨pb', h1, h2, h3⟩ := setBs_s h
      have hlt := (List.getElem?_eq_some_iff.1 hb0).1
      have hl : ∀ i, live (pb.set i0 (some ⟨b0.ty, c, true⟩)) i ↔ live pb i := fun i => by
        simp only [live, List.getElem?_set]
        split
        · rename_i h; subst h; exact ⟨fun _ => ⟨_, hb0⟩, fun _ => ⟨⟨b0.ty, c, true⟩, by simp []⟩⟩
        · rfl
      refine ⟨pb', h1, fun i => (h2 i).trans (hl i), fun i b hb => ?_⟩
      obtain ⟨b1, g1, g2, g3⟩ := h3 i b hb
      rw [List.getElem?_set] at g1
      split at g1
      · rename_i hi; subst hi
        simp only [Option.some.injEq] at g1; subst g1
        refine ⟨b0, hb0, g2, .inr ?_⟩
        rcases g3 with ⟨_, rfl⟩ | ⟨k, c', k1, k2, k3⟩
        · exact ⟨0, c, rfl, rfl, rfl, rfl⟩
        · exact ⟨k + 1, c', by simpa using k1, by simpa using k2, k3⟩
      · rename_i hi
        refine ⟨b1, g1, g2, ?_⟩
        rcases g3 with ⟨k1, k2⟩ | ⟨k, c', k1, k2, k3⟩
        · exact .inl ⟨by simp [Ne.symm hi, k1], k2⟩
        · exact .inr ⟨k + 1, c', by simpa using k1, by simpa using k2, k3⟩
    · cases h
end
/-! what a join's state stands for -/
section
variable {E E2 : Env} {pb : DBs} {ro : List RKd} {rw : List DR}
/-- what the state behind a join takes over -/
structure Over (pb : DBs) (ro : List RKd) (rw : List DR) (E E2 : Env) : Prop where
  data : Later E.U E2.U E.w E2.w
  row : ∀ j v u, okRowV ro rw j v = true → v.h E u → (DV.row j).h E2 u
  ob : ∀ j v u, okObV ro rw j v = true → v.h E u → (DV.ob j).h E2 u
  own : ∀ i, live pb i → live E2.pb i ∧ E2.B i = E.B i
theorem vsX_s (O : Over pb ro rw E E2) : ∀ (cs : List DS) (r : DT) {vs : List DV} {us : List Value} {y : r.den} {z : (vsT cs r).den}, vsX ro rw cs r vs y = some z → hL E vs us → ownDS pb cs = true → (vsV cs r z).2 = y ∧ hL E2 (vsV cs r z).1 us
  | [], r, vs, us, y, z, h, hv, ho => by
    cases vs with
    | nil => simp only [vsX] at h; have h : y = z := Option.some.inj h; subst h; exact ⟨rfl, hv⟩
    | cons v vs => simp [vsX] at h
  | c :: cs, r, [], us, y, z, h, hv, ho => by cases c <;> simp [vsX] at h
  | c :: cs, r, v :: vs, us, y, z, h, hv, ho => by
    simp only [hL] at hv
    obtain ⟨u, us', rfl, hv1, hv2⟩ := hv
    simp only [ownDS, Bool.and_eq_true] at ho
    cases c with
    | t t =>
      simp only [vsX] at h
      split at h
      · rename_i x z' hx hz
        have h := Option.some.inj h; subst h
        obtain ⟨h1, h2⟩ := vsX_s O cs r hz hv2 ho.2
        refine ⟨h1, ?_⟩
        simp only [vsV, hL]
        exact ⟨u, us', rfl, t.val_h (DT.hv_mono O.data (DT.ofV_h hx hv1)), h2⟩
      · cases h
    | row j =>
      simp only [vsX] at h
      split at h
      · rename_i hx
        obtain ⟨h1, h2⟩ := vsX_s O cs r h hv2 ho.2
        refine ⟨h1, ?_⟩
        simp only [vsV, hL]
        exact ⟨u, us', rfl, O.row _ _ _ hx hv1, h2⟩
      · cases h
    | ob j =>
      simp only [vsX] at h
      split at h
      · rename_i hx
        obtain ⟨h1, h2⟩ := vsX_s O cs r h hv2 ho.2
        refine ⟨h1, ?_⟩
        simp only [vsV, hL]
        exact ⟨u, us', rfl, O.ob _ _ _ hx hv1, h2⟩
      · cases h
    | own i o =>
      simp only [vsX] at h
      split at h
      · rename_i hx
        obtain ⟨h1, h2⟩ := vsX_s O cs r h hv2 ho.2
        refine ⟨h1, ?_⟩
        simp only [vsV, hL]
        refine ⟨u, us', rfl, ?_, h2⟩
        unfold okOwnV at hx
        split at hx
        · rename_i i' o'
          simp only [Bool.and_eq_true] at hx
          have e1 := Nat.eq_of_beq_eq_true hx.1
          have e2 := Nat.eq_of_beq_eq_true hx.2
          subst e1; subst e2
          simp only [DV.h] at hv1 ⊢
          have hli : live pb i := by
            cases hd : dbV pb i with
            | none => have h3 := ho.1; simp only [hd] at h3; cases h3
            | some b => exact ⟨b, dbV_spec.1 hd⟩
          obtain ⟨g1, g2⟩ := O.own i hli
          exact ⟨g1, by rw [g2]; exact hv1.2⟩
        · cases hx
      · cases h
    | nil =>
      simp only [vsX] at h
      split at h
      · rename_i hx
        obtain ⟨h1, h2⟩ := vsX_s O cs r h hv2 ho.2
        refine ⟨h1, ?_⟩
        simp only [vsV, hL]
        refine ⟨u, us', rfl, ?_, h2⟩
        unfold okNilV at hx
        split at hx
        · simp only [DV.h] at hv1 ⊢; exact hv1
        · cases hx
      · cases h
theorem boX_s (O : Over pb ro rw E E2) {pb' : DBs} {cs : Nat → List Value → TypeId → Prop} (hb : ∀ i b, pb'[i]? = some (some b) → ∃ us, cs i us b.ty ∧ hL E b.cells us) : ∀ (l : List (Nat × List DS)) (r : DT) {y : r.den} {z : (boT l r).den}, boX ro pb' rw l r y = some z → ownBo pb l = true →
    (boV l r z).2 = y ∧ ∀ (k i : Nat) (c : List DV), (boN l)[k]? = some i → (boV l r z).1[k]? = some c → ∃ us t, cs i us t ∧ hL E2 c us
  | [], r, y, z, h, ho => by
    simp only [boX] at h
    have h : y = z := Option.some.inj h
    subst h
    exact ⟨rfl, fun k i c h => by simp [boN] at h⟩
  | (i0, ds) :: l, r, y, z, h, ho => by
    simp only [ownBo, Bool.and_eq_true] at ho
    unfold boX at h
    cases hb1 : dbV pb' i0 with
    | none => simp [hb1] at h
    | some b =>
    cases hz : boX ro pb' rw l r y with
    | none => simp [hb1, hz] at h
    | some z1 =>
      rw [hb1, hz] at h
      rw [dbV_spec] at hb1
      obtain ⟨us, h1, h2⟩ := hb i0 b hb1
      obtain ⟨g1, g2⟩ := boX_s O hb l r hz ho.2
      obtain ⟨g3, g4⟩ := vsX_s O ds _ h h2 ho.1.2
      have e : (boV ((i0, ds) :: l) r z) = ((vsV ds (boT l r) z).1 :: (boV l r z1).1, (boV l r z1).2) := by
        simp only [boV, g3]
      rw [e]
      refine ⟨g1, fun k i c hk hc => ?_⟩
      cases k with
      | zero => simp [boN] at hk hc; subst hk; subst hc; exact ⟨us, _, h1, g4⟩
      | succ k => exact g2 k i c (by simpa [boN] using hk) (by simpa using hc)
end
end Go.Vc

namespace Go.Vc
open Go Go.RowKit
section
variable {V : World} {U0 L Lx : Nat → Prop} {B B' : Nat → Nat} {A A' : Asg} {pb pb' : DBs} {rw rw' : List DR} {w w' : World} {ts ts' : List DV} {a a' : Act} {β : Type}
/-- rows as they are taken over -/
def rowA (A : Asg) (rw : List DR) : Asg := fun n => match rw[n]? with
  | some (.own _ _ _) => A n
  | some (.obj _) => A n
  | _ => (none, 0)
theorem owns_nil {e : TypeId} {k : Nat} : w.ownsRow 0 e k (.slice none 0 0) 0 [] := ⟨by simp, .inl ⟨rfl, rfl⟩⟩
/-- THE STATE BEHIND A JOIN -/
theorem join_ok {j : DJ} {x : Code} (m : Mem V U0 L B A pb rw w) (hts : hL (env U0 B A pb rw w) ts a.tmps.toList) (hok : okJ j x ts pb = true) (hLx : ∀ b, Lx b ↔ Ow B A pb rw b) (mx : Mem w U0 Lx B' A' pb' rw' w') (hx : hL (env U0 B' A' pb' rw' w') ts' a'.tmps.toList) (hso : SameOut (writes x) a a')
    (hbx : ∀ i, live pb i → live pb' i ∧ B' i = B i) {k : j.T.den → Option β} {q : β} (h : outD j pb ts' pb' rw' k = some q) :
    ∃ z, k z = some q ∧ ∀ {γ : Type} {K : DK γ} {q : γ}, headD j x ts pb z K = some q → ∃ A2 ts1 pb1 rw1, Mem V U0 L B' A2 pb1 rw1 w' ∧ hL (env U0 B' A2 pb1 rw1 w') ts1 a'.tmps.toList ∧ K ts1 pb1 rw1 = some q ∧ (∀ i, live pb1 i ↔ live pb i) ∧ ∀ i, live pb i → B' i = B i := by
  unfold outD at h
  split at h
  · rename_i hcl
    obtain ⟨ts2, pb2, rw2, ps, h, m2, hts2, _, e2, _⟩ := frzE_s (al := fun _ => true) (ps := []) (us := []) _ h mx hx (by simp [hL])
    split at h
    · rename_i vs y hvs hy
      split at h
      · rename_i y2 hy2
        split at h
        · rename_i z hz
          refine ⟨z, h, fun {γ K q} hd => ?_⟩
          simp only [okJ, Bool.and_eq_true] at hok
          obtain ⟨⟨⟨⟨_, ho1⟩, ho2⟩, _⟩, _⟩ := hok
          have R := roX_s hy
          have hU : ∀ (pb3 : DBs), (∀ i, live pb3 i ↔ live pb i) → ∀ kd i b, blk B' (rowA A' rw2) pb3 (roV j.ro y) kd i b → blk B' A' pb2 rw2 kd i b ∧ (kd = true → (rowA A' rw2) i = A' i) := by
            intro pb3 hl kd i b hb
            cases kd with
            | false => exact ⟨⟨(e2.bx i (hbx i ((hl i).1 hb.1)).1).1, hb.2⟩, fun h => by cases h⟩
            | true =>
              obtain ⟨r, ad, h1, h2, h3, h4⟩ := hb
              cases r with
              | dead => exact absurd rfl h2
              | own e t l =>
                rcases R.own i e t l h1 with g | ⟨_, g⟩
                · have e3 : rowA A' rw2 i = A' i := by unfold rowA; rw [g]
                  exact ⟨⟨_, ad, g, by simp, by rw [← e3]; exact h3, h4⟩, fun _ => e3⟩
                · have e3 : rowA A' rw2 i = (none, 0) := by unfold rowA; rcases g with g | g <;> rw [g]
                  rw [e3] at h3; cases h3
              | obj d =>
                obtain ⟨d', g, _⟩ := R.itr i d h1
                have e3 : rowA A' rw2 i = A' i := by unfold rowA; rw [g]
                exact ⟨⟨_, ad, g, by simp, by rw [← e3]; exact h3, h4⟩, fun _ => e3⟩
          have hUs : ∀ (pb3 : DBs), (∀ i, live pb3 i ↔ live pb i) → ∀ b, Us U0 B' (rowA A' rw2) pb3 (roV j.ro y) b → Us U0 B' A' pb2 rw2 b := fun pb3 hl b hb => hb.imp id fun ⟨kd, i, hb⟩ => ⟨kd, i, (hU pb3 hl kd i b hb).1⟩
          have over : ∀ (pb3 : DBs), (∀ i, live pb3 i ↔ live pb i) → Over pb j.ro rw2 (env U0 B' A' pb2 rw2 w') (env U0 B' (rowA A' rw2) pb3 (roV j.ro y) w') := by
            intro pb3 hl
            refine ⟨⟨fun _ _ _ => rfl, Nat.le_refl _, fun b _ hb => hUs pb3 hl b hb⟩, fun n v u hr hv => ?_, fun n v u hr hv => ?_, fun i hi => ⟨(hl i).2 hi, rfl⟩⟩
            · unfold okRowV at hr
              simp only [Bool.and_eq_true] at hr
              obtain ⟨hr1, hr2⟩ := hr
              obtain ⟨e, t, l, hn⟩ := R.isO n hr1
              simp only [DV.h]
              refine ⟨e, t, l, hn, ?_⟩
              split at hr2
              · rename_i j'
                split at hr2
                · rename_i e3 t3 l3 hj hd
                  rw [drV_spec] at hd
                  have hj := Nat.eq_of_beq_eq_true hj
                  subst hj
                  simp only [DV.h] at hv
                  obtain ⟨e4, t4, l4, h4, rfl⟩ := hv
                  have h4 : rw2[n]? = some (.own e4 t4 l4) := h4
                  rcases R.own n e t l hn with g | ⟨_, g⟩
                  · rw [h4] at g
                    simp only [Option.some.injEq, DR.own.injEq] at g
                    obtain ⟨rfl, rfl, g⟩ := g
                    cases g
                    change Value.slice (A' n).1 _ (A' n).2 = Value.slice (rowA A' rw2 n).1 _ (rowA A' rw2 n).2
                    rw [show rowA A' rw2 n = A' n by unfold rowA; rw [h4]]
                  · rw [h4] at g; simp at g
                · cases hr2
              · simp only [DV.h] at hv
                split at hr2
                · cases hr2
                · rename_i hno
                  rw [drV_spec] at hno
                  rcases R.own n e t l hn with g | ⟨rfl, g⟩
                  · exact absurd g (hno e t l)
                  · change u = Value.slice (rowA A' rw2 n).1 0 (rowA A' rw2 n).2
                    rw [show rowA A' rw2 n = (none, 0) by unfold rowA; rcases g with g | g <;> rw [g]]
                    exact hv
              · cases hr2
            · unfold okObV at hr
              simp only [Bool.and_eq_true] at hr
              obtain ⟨hr1, hr2⟩ := hr
              obtain ⟨d, hn⟩ := R.isI n hr1
              split at hr2
              · rename_i j'
                split at hr2
                · rename_i d3 hj hd
                  have hj := Nat.eq_of_beq_eq_true hj
                  subst hj
                  simp only [DV.h] at hv ⊢
                  obtain ⟨d4, ad, h4, h5, rfl⟩ := hv
                  obtain ⟨d', g, gm, _⟩ := R.itr n d hn
                  have h4 : rw2[n]? = some (.obj d4) := h4
                  rw [g] at h4; simp only [Option.some.injEq, DR.obj.injEq] at h4; subst h4
                  refine ⟨d, ad, hn, ?_, by simp only [OD.at, gm]⟩
                  change (rowA A' rw2 n).1 = some ad
                  rw [show rowA A' rw2 n = A' n by unfold rowA; rw [g]]
                  exact h5
                · cases hr2
              · cases hr2
          -- the state
          unfold headD at hd
          generalize hzz : vsV (dsS j.sl) (boT j.bo (roT j.ro)) z = zz at hd
          obtain ⟨vs3, y3⟩ := zz
          dsimp only at hd
          generalize hyy : boV j.bo (roT j.ro) y3 = yy at hd
          obtain ⟨vss, y4⟩ := yy
          dsimp only at hd
          rw [subLE_eq] at hd
          obtain ⟨ts3, hd, hj3⟩ := junkE_s hd
          have hy3 : y3 = y2 := by
            have := (vsX_s (over pb fun _ => Iff.rfl) _ _ hz (gtVs_h hts2 hvs) ho1).1
            rw [hzz] at this; exact this
          subst hy3
          have hy4 : y4 = y := by
            have := (boX_s (over pb fun _ => Iff.rfl) (pb' := pb2) (cs := fun _ _ _ => True) (fun i b hb => let ⟨cs, _, h2, _⟩ := m2.box i b hb; ⟨cs, trivial, h2⟩) _ _ hy2 ho2).1
            rw [hyy] at this; exact this
          subst hy4
          -- boxes
          have hset : ∀ (ts4 : List DV), subBE norowD pb (fun pb => setBs pb (boN j.bo) vss fun pb => K ts4 pb (roV j.ro y4)) = some q →
              ∃ pb1, K ts4 pb1 (roV j.ro y4) = some q ∧ (∀ i, live pb1 i ↔ live pb i) ∧ Mem V U0 L B' (rowA A' rw2) pb1 (roV j.ro y4) w' := by
            intro ts4 h4
            rw [subBE_eq] at h4
            obtain ⟨pb1, h4, hl, hbs⟩ := setBs_s h4
            have hl : ∀ i, live pb1 i ↔ live pb i := fun i => (hl i).trans subB'_live
            have O := over pb1 hl
            refine ⟨pb1, h4, hl, ?_⟩
            have hlat : Later (Us U0 B A pb rw) (Us U0 B' (rowA A' rw2) pb1 (roV j.ro y4)) w w' := by
              refine ⟨fun b hb hn => mx.same b hb fun h => hn (.inr ((hLx b).1 h)), mx.size, fun b hb hu => ?_⟩
              rcases hUs pb1 hl b hu with g | ⟨kd, i, g⟩
              · exact .inl g
              · rcases (m2.low _ _ _ g).2 with g | g
                · omega
                · exact .inr ((hLx b).1 g)
            have hsub : Sub norowD (env U0 B A pb rw w) (env U0 B' (rowA A' rw2) pb1 (roV j.ro y4) w') :=
              ⟨hlat, fun i hi => ⟨(hl i).2 hi, (hbx i hi).2⟩, fun n e t l hn => (by cases hn), fun n d hn => (by cases hn), fun n p e t l hn _ => (by cases hn; simp only [DV.h]), fun n p d ad hn _ _ => (by cases hn; simp only [DV.h])⟩
            refine ⟨mx.os.trans m.os, mx.tape.trans m.tape, mx.output.trans m.output, Nat.le_trans m.size mx.size, m.same2 hLx mx, m.u0, fun kd i b hb => m.low2 hLx m2 kd i b (hU pb1 hl kd i b hb).1, fun kd i kd' i' b h1 h2 => m2.inj _ _ _ _ _ (hU pb1 hl kd i b h1).1 (hU pb1 hl kd' i' b h2).1, fun i b hb => ?_, fun n e t l hn => ?_, fun n d hn => ?_⟩
            · obtain ⟨b0, g1, g2, g3⟩ := hbs i b hb
              obtain ⟨b00, g4, rfl⟩ := subB'_get.1 g1
              obtain ⟨b', g5, g6, g7⟩ := cleanB_s hcl i b00 g4
              have hBi := (hbx i ⟨b00, g4⟩).2
              rcases g3 with ⟨g8, rfl⟩ | ⟨kk, c, g8, g9, rfl, g10⟩
              · -- as it was
                obtain ⟨cs, k1, k2, k3⟩ := m.box i b00 g4
                have hw : b'.w = false := by
                  rcases g7 with g7 | g7
                  · rw [Nat.zero_add] at g7; exact absurd ((memN_iff _ _).1 g7) g8
                  · exact g7
                obtain ⟨_, _, _, k6⟩ := mx.box i b' g5
                obtain ⟨k7, k8⟩ := k6 hw
                refine ⟨cs, by rw [k8, hBi]; exact k1, hL_subL hsub _ k2, fun hw2 => ?_⟩
                obtain ⟨k9, k10⟩ := k3 hw2
                exact ⟨by rw [hBi]; exact k9, by rw [k8, hBi]; exact k10⟩
              · obtain ⟨us, t, k1, k2⟩ := (boX_s O (pb' := pb2) (cs := fun i us t => w'.heap[B' i]? = some (.cells us.toArray t (0, 0))) (fun i b hb => let ⟨cs, h1, h2, _⟩ := m2.box i b hb; ⟨cs, h1, h2⟩) _ _ hy2 ho2).2 kk i b.cells g8 (by rw [hyy]; exact g9)
                obtain ⟨us', k3, k4, _⟩ := mx.box i b' g5
                rw [k1] at k3
                simp only [Option.some.injEq, Obj.cells.injEq] at k3
                refine ⟨us, by rw [k1, k3.2.1, ← g6, ← g2], k2, fun hf => by rw [g10] at hf; cases hf⟩
            · rcases R.own n e t l hn with g | ⟨rfl, g⟩
              · obtain ⟨xs, k1, k2⟩ := m2.row n e t l g
                refine ⟨xs, ?_, DT.hs_mono O.data k2⟩
                rw [show rowA A' rw2 n = A' n by unfold rowA; rw [g]]; exact k1
              · refine ⟨[], ?_, DT.hs_nil⟩
                rw [show rowA A' rw2 n = (none, 0) by unfold rowA; rcases g with g | g <;> rw [g]]
                exact owns_nil
            · obtain ⟨d', g, _, gh⟩ := R.itr n d hn
              obtain ⟨b, o, k1, k2, k3⟩ := m2.itr n d' g
              exact ⟨b, o, by rw [show rowA A' rw2 n = A' n by unfold rowA; rw [g]]; exact k1, k2, OD.mono O.data (gh _ _ _ k3)⟩
          -- slots
          have hslots : ∃ ts4, subBE norowD pb (fun pb => setBs pb (boN j.bo) vss fun pb => K ts4 pb (roV j.ro y4)) = some q ∧ ∀ pb1, (∀ i, live pb1 i ↔ live pb i) → hL (env U0 B' (rowA A' rw2) pb1 (roV j.ro y4) w') ts4 a'.tmps.toList := by
            have hsl : ∀ pb1, (∀ i, live pb1 i ↔ live pb i) → hL (env U0 B' (rowA A' rw2) pb1 (roV j.ro y4) w') ts3 a'.tmps.toList := by
              intro pb1 hl
              have O := over pb1 hl
              have hlat : Later (Us U0 B A pb rw) (Us U0 B' (rowA A' rw2) pb1 (roV j.ro y4)) w w' := by
                refine ⟨fun b hb hn => mx.same b hb fun h => hn (.inr ((hLx b).1 h)), mx.size, fun b hb hu => ?_⟩
                rcases hUs pb1 hl b hu with g | ⟨kd, i, g⟩
                · exact .inl g
                · rcases (m2.low _ _ _ g).2 with g | g
                  · omega
                  · exact .inr ((hLx b).1 g)
              have hsub : Sub norowD (env U0 B A pb rw w) (env U0 B' (rowA A' rw2) pb1 (roV j.ro y4) w') :=
                ⟨hlat, fun i hi => ⟨(hl i).2 hi, (hbx i hi).2⟩, fun n e t l hn => (by cases hn), fun n d hn => (by cases hn), fun n p e t l hn _ => (by cases hn; simp only [DV.h]), fun n p d ad hn _ _ => (by cases hn; simp only [DV.h])⟩
              have hold := hL_subL hsub ts hts
              refine hj3 _ _ ?_ fun i p v hi hp hv => ?_
              · rw [← hL_len hold]; simp [hso.1]
              · have hm := maskOf_s hi
                rw [Nat.zero_add] at hm
                have hn : i ∉ writes x := fun h => by rw [(memN_iff _ _).2 h] at hm; cases hm
                have hs := hso.2 i hn
                obtain ⟨v', g1, g2⟩ := hL_get hold i p hp
                simp only [Array.getElem?_toList] at g1 hv
                rw [hs, g1] at hv
                cases hv
                exact g2
            exact ⟨_, setsE_eq hd, fun pb1 hl => setsE_h (hsl pb1 hl) (by
              have := (vsX_s (over pb1 hl) _ _ hz (gtVs_h hts2 hvs) ho1).2
              rw [hzz] at this; exact this)⟩
          obtain ⟨ts4, h4, hts4⟩ := hslots
          obtain ⟨pb1, h5, hl, m5⟩ := hset ts4 h4
          exact ⟨_, ts4, pb1, _, m5, hts4 pb1 hl, h5, hl, fun i hi => (hbx i hi).2⟩
        · cases h
      · cases h
    · cases h
  · cases h
end
end Go.Vc

namespace Go.Vc
open Go Go.RowKit
theorem dbV_clr : ∀ {pb : DBs} {i : Nat}, (dbV (clrB pb) i).isSome = (dbV pb i).isSome
  | [], _ => rfl
  | some b :: pb, 0 => rfl
  | none :: pb, 0 => rfl
  | some b :: pb, i + 1 => by simp only [clrB, dbV]; exact dbV_clr
  | none :: pb, i + 1 => by simp only [clrB, dbV]; exact dbV_clr
theorem ownDS_clr {pb : DBs} : ∀ {l : List DS}, ownDS (clrB pb) l = ownDS pb l
  | [] => rfl
  | d :: l => by
    simp only [ownDS]
    rw [ownDS_clr]
    cases d <;> simp only [dbV_clr]
theorem ownBo_clr {pb : DBs} : ∀ {l : List (Nat × List DS)}, ownBo (clrB pb) l = ownBo pb l
  | [] => rfl
  | (i, cs) :: l => by
    simp only [ownBo]
    rw [ownBo_clr, ownDS_clr, dbV_clr]
theorem okJ_clr {j : DJ} {x : Code} {ts : List DV} {pb : DBs} : okJ j x ts (clrB pb) = okJ j x ts pb := by
  unfold okJ; rw [ownDS_clr, ownBo_clr]
/-- how code may end here -/
def endX : Exit → Prop
  | .normal => True
  | .exit _ => True
  | .ret => True
  | _ => False
section
variable {P : Program} {T : List TI} {C : ESs} {O : DTs} {JC JL : List (Nat × DJ)} {β : Type} [EqB β] {q : β}
omit [EqB β] in
theorem Nx.more {V : World} {U0 L : Nat → Prop} {B B1 : Nat → Nat} {pb pb1 : DBs} {a a1 a' : Act} {w' : World} {K : DK β} (hl : ∀ i, live pb i → live pb1 i ∧ B1 i = B i) (hd : a1.defers = a.defers) (h : Nx V U0 L B1 pb1 a1 K q a' w') : Nx V U0 L B pb a K q a' w' :=
  let ⟨B', A', ts', pb', rw', m, h1, h2, h3, h4⟩ := h
  ⟨B', A', ts', pb', rw', m, h1, h2, h3.trans hd, fun i hi => let ⟨g1, g2⟩ := hl i hi; let ⟨g3, g4⟩ := h4 i g1; ⟨g3, g4.trans g2⟩⟩
/-- CODE -/
theorem ev_ok (hT : TableOk P T) (hC : CsOk P C) (hm : P.follows .mixedOrders = true) : ∀ (c : Code) {Q : Exit → DK β} {V : World} {U0 L : Nat → Prop} {B : Nat → Nat} {A : Asg} {ts : List DV} {pb : DBs} {rw : List DR} {a : Act} {w : World},
    ev stdW T C O JC JL c Q ts pb rw = some q → Mem V U0 L B A pb rw w → hL (env U0 B A pb rw w) ts a.tmps.toList → c.wp P (fun e a' w' => endX e ∧ Nx V U0 L B pb a (Q e) q a' w' ∧ SameOut (writes c) a a') a w
  | .skip, Q, V, U0, L, B, A, ts, pb, rw, a, w, h, m, hts => by
    simp only [ev] at h
    exact wp_skip ⟨trivial, ⟨B, A, ts, pb, rw, m, hts, h, rfl, fun i hi => ⟨hi, rfl⟩⟩, SameOut.refl _ _⟩
  | .label _, Q, V, U0, L, B, A, ts, pb, rw, a, w, h, m, hts => by
    simp only [ev] at h
    exact wp_label ⟨trivial, ⟨B, A, ts, pb, rw, m, hts, h, rfl, fun i hi => ⟨hi, rfl⟩⟩, SameOut.refl _ _⟩
  | .exit id, Q, V, U0, L, B, A, ts, pb, rw, a, w, h, m, hts => by
    simp only [ev] at h
    exact wp_exit ⟨trivial, ⟨B, A, ts, pb, rw, m, hts, h, rfl, fun i hi => ⟨hi, rfl⟩⟩, SameOut.refl _ _⟩
  | .ret, Q, V, U0, L, B, A, ts, pb, rw, a, w, h, m, hts => by
    simp only [ev] at h
    exact wp_ret ⟨trivial, ⟨B, A, ts, pb, rw, m, hts, h, rfl, fun i hi => ⟨hi, rfl⟩⟩, SameOut.refl _ _⟩
  | .seq x y, Q, V, U0, L, B, A, ts, pb, rw, a, w, h, m, hts => by
    have hwx : ∀ i ∈ writes x, i ∈ writes (.seq x y) := fun i hi => by simp [writes, hi]
    have hwy : ∀ i ∈ writes y, i ∈ writes (.seq x y) := fun i hi => by simp [writes, hi]
    unfold ev at h
    split at h
    · refine wp_seq (wp_mono (ev_ok hT hC hm x h m hts) fun e a1 w1 hq => ?_)
      obtain ⟨he, hn, hso⟩ := hq
      cases e with
      | normal =>
        obtain ⟨B1, A1, ts1, pb1, rw1, m1, hts1, h1, hd, hl⟩ := hn
        refine wp_mono (ev_ok hT hC hm y h1 m1 hts1) fun e a2 w2 hq => ?_
        exact ⟨hq.1, hq.2.1.more hl hd, (hso.mono hwx).trans (hq.2.2.mono hwy)⟩
      | exit i => exact ⟨he, hn, hso.mono hwx⟩
      | ret => exact ⟨he, hn, hso.mono hwx⟩
      | _ => exact he.elim
    · rename_i j hj
      split at h
      · rename_i hok
        obtain ⟨ma, sa⟩ := m.anchor
        have h : ev stdW T C O JC JL x (fun e ts' pb' rw' => match e with
          | .normal => outD j pb ts' pb' rw' fun z => headD j x ts pb z fun ts1 pb1 rw1 => ev stdW T C O JC JL y Q ts1 pb1 rw1
          | .exit i => Q (.exit i) ts' (orW pb pb') rw'
          | .ret => Q .ret ts' (orW pb pb') rw'
          | _ => none) ts (clrB pb) rw = some q := h
        refine wp_seq (wp_mono (ev_ok hT hC hm x h ma (noSub sa hts)) fun e a1 w1 hq => ?_)
        obtain ⟨he, ⟨B1, A1, ts1, pb1, rw1, mx, hx, h1, hd, hl⟩, hso⟩ := hq
        have hl : ∀ i, live pb i → live pb1 i ∧ B1 i = B i := fun i hi => hl i (clrB_live.2 hi)
        have out : ∀ {K : DK β}, K ts1 (orW pb pb1) rw1 = some q → Nx V U0 L B pb a K q a1 w1 := by
          intro K hK
          obtain ⟨mo, so⟩ := m.out2 (fun _ => Iff.rfl) mx fun i hi => (hl i hi).2
          exact ⟨B1, A1, ts1, _, rw1, mo, noSub so hx, hK, hd, fun i hi => ⟨orW_live.2 (hl i hi).1, (hl i hi).2⟩⟩
        cases e with
        | normal =>
          obtain ⟨z, hk, hh⟩ := join_ok m hts hok (fun _ => Iff.rfl) mx hx hso hl h1
          obtain ⟨A2, ts2, pb2, rw2, m2, hts2, h2, g1, g2⟩ := hh hk
          refine wp_mono (ev_ok hT hC hm y h2 m2 hts2) fun e a2 w2 hq => ?_
          exact ⟨hq.1, hq.2.1.more (fun i hi => ⟨(g1 i).2 hi, g2 i hi⟩) hd, (hso.mono hwx).trans (hq.2.2.mono hwy)⟩
        | exit i => exact ⟨he, out h1, hso.mono hwx⟩
        | ret => exact ⟨he, out h1, hso.mono hwx⟩
        | _ => exact he.elim
      · cases h
  | .cond c x y, Q, V, U0, L, B, A, ts, pb, rw, a, w, h, m, hts => by
    have hwx : ∀ i ∈ writes x, i ∈ writes (.cond c x y) := fun i hi => by simp [writes, hi]
    have hwy : ∀ i ∈ writes y, i ∈ writes (.cond c x y) := fun i hi => by simp [writes, hi]
    unfold ev at h
    split at h
    · rename_i hc
      have hc := opV_h hc hts
      simp only [DV.h] at hc
      exact wp_cond_true hc (wp_mono (ev_ok hT hC hm x h m hts) fun e a1 w1 hq => ⟨hq.1, hq.2.1, hq.2.2.mono hwx⟩)
    · rename_i hc
      have hc := opV_h hc hts
      simp only [DV.h] at hc
      exact wp_cond_false hc (wp_mono (ev_ok hT hC hm y h m hts) fun e a1 w1 hq => ⟨hq.1, hq.2.1, hq.2.2.mono hwy⟩)
    · rename_i b hc
      have hc := opV_h hc hts
      simp only [DV.h] at hc
      rcases cnd_s h with ⟨rfl, h⟩ | ⟨rfl, h⟩
      · exact wp_cond_true hc (wp_mono (ev_ok hT hC hm x h m hts) fun e a1 w1 hq => ⟨hq.1, hq.2.1, hq.2.2.mono hwx⟩)
      · exact wp_cond_false hc (wp_mono (ev_ok hT hC hm y h m hts) fun e a1 w1 hq => ⟨hq.1, hq.2.1, hq.2.2.mono hwy⟩)
    · cases h
  | .block id x, Q, V, U0, L, B, A, ts, pb, rw, a, w, h, m, hts => by
    simp only [ev] at h
    refine wp_block (wp_mono (ev_ok hT hC hm x h m hts) fun e a1 w1 hq => ?_)
    obtain ⟨he, hn, hso⟩ := hq
    cases e with
    | normal => exact ⟨he, hn, hso⟩
    | ret => exact ⟨he, hn, hso⟩
    | exit i =>
      unfold Exit.inBlock
      obtain ⟨B1, A1, ts1, pb1, rw1, m1, hts1, h1, hd, hl⟩ := hn
      by_cases hi : i = id
      · subst hi
        simp only [if_true]
        simp only [show Nat.beq i i = true from Nat.beq_refl i] at h1
        exact ⟨trivial, ⟨B1, A1, ts1, pb1, rw1, m1, hts1, h1, hd, hl⟩, hso⟩
      · simp only [hi, if_false]
        simp only [show Nat.beq i id = false from by cases hb : Nat.beq i id with | false => rfl | true => exact absurd (Nat.eq_of_beq_eq_true hb) hi] at h1
        exact ⟨trivial, ⟨B1, A1, ts1, pb1, rw1, m1, hts1, h1, hd, hl⟩, hso⟩
    | _ => exact he.elim
  | .scope x, Q, V, U0, L, B, A, ts, pb, rw, a, w, h, m, hts => by
    simp only [ev] at h
    refine wp_scope_straight (wp_mono (ev_ok hT hC hm x h m hts) fun e a1 w1 hq => ?_)
    cases e with
    | normal => exact hq
    | ret => exact hq
    | exit i => exact hq
    | _ => exact hq.1.elim
  | .region id ops draw, Q, V, U0, L, B, A, ts, pb, rw, a, w, h, m, hts => by
    unfold ev at h
    cases draw with
    | false => exact wp_region_list (evList_ok (al := fun _ => true) hT hC ops.toList h m hts fun a' w' hn hso => ⟨trivial, hn.nx, hso⟩)
    | true => exact drawD_ok hT hC hm h m hts fun a' w' hn hso => ⟨trivial, hn, hso⟩
  | .loop x, Q, V, U0, L, B, A, ts, pb, rw, a, w, h, m, hts => by
    unfold ev at h
    split at h
    · generalize 5 = N at h
      refine wp_loop_ghost (fun n a1 w1 => ∃ B1 A1 ts1 pb1 rw1, unr (fun again ts pb rw => ev stdW T C O JC JL x (fun e ts pb rw => match e with
          | .normal => again ts pb rw
          | .exit i => Q (.exit i) ts pb rw
          | .ret => Q .ret ts pb rw
          | _ => none) ts pb rw) n ts1 pb1 rw1 = some q ∧ Mem V U0 L B1 A1 pb1 rw1 w1 ∧ hL (env U0 B1 A1 pb1 rw1 w1) ts1 a1.tmps.toList ∧ SameOut (writes x) a a1 ∧ a1.defers = a.defers ∧ ∀ i, live pb i → live pb1 i ∧ B1 i = B i) N ⟨B, A, ts, pb, rw, h, m, hts, SameOut.refl _ _, rfl, fun i hi => ⟨hi, rfl⟩⟩ ?_
      rintro n a1 w1 ⟨B1, A1, ts1, pb1, rw1, hn, m1, hts1, hso, hd, hl⟩
      cases n with
      | zero => cases hn
      | succ n =>
        simp only [unr] at hn
        refine wp_mono (ev_ok hT hC hm x hn m1 hts1) fun e a2 w2 hq => ?_
        obtain ⟨he, hx, hso2⟩ := hq
        cases e with
        | normal =>
          obtain ⟨B2, A2, ts2, pb2, rw2, m2, hts2, h2, hd2, hl2⟩ := hx
          exact ⟨n, Nat.lt_succ_self n, B2, A2, ts2, pb2, rw2, h2, m2, hts2, hso.trans hso2, hd2.trans hd, fun i hi => let ⟨g1, g2⟩ := hl i hi; let ⟨g3, g4⟩ := hl2 i g1; ⟨g3, g4.trans g2⟩⟩
        | exit i => exact ⟨he, hx.more hl hd, hso.trans hso2⟩
        | ret => exact ⟨he, hx.more hl hd, hso.trans hso2⟩
        | _ => exact he.elim
    · rename_i j hj
      split at h
      · rename_i hok
        obtain ⟨ma, sa⟩ := m.anchor
        have hok1 : okJ j x ts (clrB pb) = true := by rw [okJ_clr]; exact hok
        have hLx : ∀ b, Ow B A pb rw b ↔ Ow B A (clrB pb) rw b := fun b => ⟨fun ⟨k, i, h⟩ => ⟨k, i, (blk_live fun i => clrB_live).2 h⟩, fun ⟨k, i, h⟩ => ⟨k, i, (blk_live fun i => clrB_live).1 h⟩⟩
        have htsa := noSub sa hts
        rw [← outD_clr] at h
        obtain ⟨z0, h, hh0⟩ := join_ok ma htsa hok1 hLx ma htsa (SameOut.refl _ _) (fun i hi => ⟨hi, rfl⟩) h
        have h : loopF FU (fun z again => headD j x ts (clrB pb) z fun ts1 pb1 rw1 =>
          ev stdW T C O JC JL x (fun e ts' pb' rw' => match e with
            | .normal => outD j pb ts' pb' rw' again
            | .exit i => Q (.exit i) ts' (orW pb pb') rw'
            | .ret => Q .ret ts' (orW pb pb') rw'
            | _ => none) ts1 pb1 rw1) z0 = some q := h
        generalize FU = N at h
        refine wp_loop_ghost (fun n a1 w1 => ∃ z B1, loopF n (fun z again => headD j x ts (clrB pb) z fun ts1 pb1 rw1 =>
          ev stdW T C O JC JL x (fun e ts' pb' rw' => match e with
            | .normal => outD j pb ts' pb' rw' again
            | .exit i => Q (.exit i) ts' (orW pb pb') rw'
            | .ret => Q .ret ts' (orW pb pb') rw'
            | _ => none) ts1 pb1 rw1) z = some q ∧ SameOut (writes x) a a1 ∧ a1.defers = a.defers ∧
          ∀ {K : DK β}, headD j x ts (clrB pb) z K = some q → ∃ A2 ts1 pb1 rw1, Mem w U0 (Ow B A pb rw) B1 A2 pb1 rw1 w1 ∧ hL (env U0 B1 A2 pb1 rw1 w1) ts1 a1.tmps.toList ∧ K ts1 pb1 rw1 = some q ∧ (∀ i, live pb1 i ↔ live (clrB pb) i) ∧ ∀ i, live (clrB pb) i → B1 i = B i) N ⟨z0, B, h, SameOut.refl _ _, rfl, fun h => hh0 h⟩ ?_
        rintro n a1 w1 ⟨z, B1, hn, hso, hd, hh⟩
        cases n with
        | zero => cases hn
        | succ n =>
          simp only [loopF] at hn
          obtain ⟨A2, ts1, pb1, rw1, m1, hts1, h1, hl1, hB1⟩ := hh hn
          refine wp_mono (ev_ok hT hC hm x h1 m1 hts1) fun e a2 w2 hq => ?_
          obtain ⟨he, ⟨B2, A3, ts2, pb2, rw2, mx, hx, h2, hd2, hl2⟩, hso2⟩ := hq
          have hl : ∀ i, live (clrB pb) i → live pb2 i ∧ B2 i = B i := fun i hi => let ⟨g1, g2⟩ := hl2 i ((hl1 i).2 hi); ⟨g1, g2.trans (hB1 i hi)⟩
          have hl' : ∀ i, live pb i → live pb2 i ∧ B2 i = B i := fun i hi => hl i (clrB_live.2 hi)
          have out : ∀ {K : DK β}, K ts2 (orW pb pb2) rw2 = some q → Nx V U0 L B pb a K q a2 w2 := by
            intro K hK
            obtain ⟨mo, so⟩ := m.out2 (fun _ => Iff.rfl) mx fun i hi => (hl' i hi).2
            exact ⟨B2, A3, ts2, _, rw2, mo, noSub so hx, hK, hd2.trans hd, fun i hi => ⟨orW_live.2 (hl' i hi).1, (hl' i hi).2⟩⟩
          cases e with
          | normal =>
            have h2 : outD j pb ts2 pb2 rw2 _ = some q := h2
            rw [← outD_clr] at h2
            obtain ⟨z2, hk, hh2⟩ := join_ok ma htsa hok1 hLx mx hx (hso.trans hso2) hl h2
            exact ⟨n, Nat.lt_succ_self n, z2, B2, hk, hso.trans hso2, hd2.trans hd, fun h => hh2 h⟩
          | exit i => exact ⟨he, out h2, hso.trans hso2⟩
          | ret => exact ⟨he, out h2, hso.trans hso2⟩
          | _ => exact he.elim
      · cases h
  | .goto _, Q, V, U0, L, B, A, ts, pb, rw, a, w, h, m, hts => by simp only [ev] at h; cases h
end
end Go.Vc

namespace Go.Vc
open Go Go.RowKit
/-! ### Functions -/
section
variable {β : Type} {q : β}
mutual
theorem QT.x_s {am : List (Nat × Nat)} {E : Env} : (Q : QT) → (p : DV) → (m : MS) → (rw0 : List DR) → (y : Q.den) → (mF : MS) → Q.x am p m = some (y, mF) → MI E m rw0 →
    MI E mF (Q.mk y rw0).2 ∧ (∃ a, mF.rs = m.rs ++ a) ∧ ∀ E0 v rsF, (∃ a, rsF = mF.rs ++ a) → TrI am rsF E E0 → p.h E v → (Q.mk y rw0).1.h E0 v
  | .v t, p, m, rw0, y, mF, h, hm => by
    simp only [QT.x] at h
    split at h
    · rename_i x hx
      simp only [Option.some.injEq, Prod.mk.injEq] at h
      obtain ⟨rfl, rfl⟩ := h
      exact ⟨hm, ⟨[], by simp⟩, fun E0 v rsF _ s hp => t.val_h (DT.hv_mono s.sl (DT.ofV_h hx hp))⟩
    · cases h
  | .own e t, p, m, rw0, y, mF, h, hm => by
    simp only [QT.x] at h
    split at h
    · rename_i j
      split at h
      · rename_i e' t' xs hj
        rw [drV_spec] at hj
        split at h
        · rename_i hh he hs
          simp only [Option.some.injEq, Prod.mk.injEq] at h
          obtain ⟨rfl, rfl⟩ := h
          have he := Nat.eq_of_beq_eq_true he
          subst he hh
          obtain ⟨hm', hE⟩ := hm.take hj
          refine ⟨hm', ⟨_, rfl⟩, fun E0 v rsF ⟨a, ha⟩ s hp => ?_⟩
          have hn : rsF[rw0.length]? = some (some j) := by rw [ha]; simp [← hm.len]
          obtain ⟨g1, g2⟩ := s.row _ _ _ _ _ hn hE
          simp only [DV.h] at hp
          obtain ⟨e2, t2, l2, hj2, rfl⟩ := hp
          rw [hE] at hj2; simp only [Option.some.injEq, DR.own.injEq] at hj2
          obtain ⟨rfl, rfl, hl2⟩ := hj2
          cases hl2
          simp only [QT.mk, DV.h]
          exact ⟨_, _, _, g1, by rw [g2]⟩
        · cases h
      · cases h
    · simp only [Option.some.injEq, Prod.mk.injEq] at h
      obtain ⟨rfl, rfl⟩ := h
      refine ⟨hm.emp e t, ⟨_, rfl⟩, fun E0 v rsF ⟨a, ha⟩ s hp => ?_⟩
      have hn : rsF[rw0.length]? = some none := by rw [ha]; simp [← hm.len]
      obtain ⟨⟨e1, t1, g1⟩, g2⟩ := s.nil _ hn
      simp only [DV.h] at hp
      subst hp
      simp only [QT.mk, DV.h]
      exact ⟨_, _, _, g1, by rw [g2]; rfl⟩
    · cases h
  | .ptr n, p, m, rw0, y, mF, h, hm => by
    simp only [QT.x] at h
    split at h
    · rename_i i o
      split at h
      · rename_i i' hl
        split at h
        · rename_i hb
          have hb := Nat.eq_of_beq_eq_true hb
          subst hb
          simp only [Option.some.injEq, Prod.mk.injEq] at h
          obtain ⟨_, rfl⟩ := h
          refine ⟨hm, ⟨[], by simp⟩, fun E0 v rsF _ s hp => ?_⟩
          simp only [DV.h] at hp
          obtain ⟨g1, rfl⟩ := hp
          obtain ⟨g2, g3⟩ := s.bx _ _ hl g1
          simp only [QT.mk, DV.h]
          exact ⟨g2, by rw [g3]⟩
        · cases h
      · cases h
    · cases h
  | .nil n, p, m, rw0, y, mF, h, hm => by
    simp only [QT.x] at h
    split at h
    · rename_i z
      split at h
      · rename_i hb
        simp only [Option.some.injEq, Prod.mk.injEq] at h
        obtain ⟨_, rfl⟩ := h
        refine ⟨hm, ⟨[], by simp⟩, fun E0 v rsF _ s hp => ?_⟩
        simp only [DV.h] at hp
        subst hp
        simp only [QT.mk, DV.h]
        exact NK.is_s hb
      · cases h
    · cases h
  | .unit, p, m, rw0, y, mF, h, hm => by
    simp only [QT.x] at h
    split at h
    · simp only [Option.some.injEq, Prod.mk.injEq] at h
      obtain ⟨_, rfl⟩ := h
      refine ⟨hm, ⟨[], by simp⟩, fun E0 v rsF _ s hp => ?_⟩
      simp only [DV.h, hL] at hp
      obtain ⟨vs, rfl, hp⟩ := hp
      simp only [QT.mk, DV.h, hL]
      exact ⟨vs, rfl, hp⟩
    · cases h
  | .pair a b, p, m, rw0, y, mF, h, hm => by
    simp only [QT.x] at h
    split at h
    · rename_i p ps
      split at h
      · rename_i x m1 hx
        split at h
        · rename_i y2 m2 hy
          simp only [Option.some.injEq, Prod.mk.injEq] at h
          obtain ⟨rfl, rfl⟩ := h
          obtain ⟨h1, ⟨a1, h2⟩, h3⟩ := QT.x_s a p m rw0 x m1 hx hm
          obtain ⟨k1, ⟨a2, k2⟩, k3⟩ := QT.xs_s b ps m1 _ y2 m2 hy h1
          refine ⟨k1, ⟨a1 ++ a2, by rw [k2, h2, List.append_assoc]⟩, fun E0 v rsF ⟨c, hc⟩ s hp => ?_⟩
          simp only [DV.h, hL] at hp
          obtain ⟨vs, rfl, u, us, hv, hp1, hp2⟩ := hp
          simp only [QT.mk, DV.h, hL]
          exact ⟨vs, rfl, u, us, hv, h3 E0 u rsF ⟨a2 ++ c, by rw [hc, k2, List.append_assoc]⟩ s hp1, k3 E0 us rsF ⟨c, hc⟩ s hp2⟩
        · cases h
      · cases h
    · cases h
theorem QT.xs_s {am : List (Nat × Nat)} {E : Env} : (Q : QT) → (ps : List DV) → (m : MS) → (rw0 : List DR) → (y : Q.den) → (mF : MS) → Q.xs am ps m = some (y, mF) → MI E m rw0 →
    MI E mF (Q.mks y rw0).2 ∧ (∃ a, mF.rs = m.rs ++ a) ∧ ∀ E0 vs rsF, (∃ a, rsF = mF.rs ++ a) → TrI am rsF E E0 → hL E ps vs → hL E0 (Q.mks y rw0).1 vs
  | .unit, ps, m, rw0, y, mF, h, hm => by
    simp only [QT.xs] at h
    split at h
    · simp only [Option.some.injEq, Prod.mk.injEq] at h
      obtain ⟨_, rfl⟩ := h
      exact ⟨hm, ⟨[], by simp⟩, fun E0 vs rsF _ s hp => by simpa only [QT.mks, hL] using hp⟩
    · cases h
  | .pair a b, ps, m, rw0, y, mF, h, hm => by
    simp only [QT.xs] at h
    split at h
    · rename_i p ps
      split at h
      · rename_i x m1 hx
        split at h
        · rename_i y2 m2 hy
          simp only [Option.some.injEq, Prod.mk.injEq] at h
          obtain ⟨rfl, rfl⟩ := h
          obtain ⟨h1, ⟨a1, h2⟩, h3⟩ := QT.x_s a p m rw0 x m1 hx hm
          obtain ⟨k1, ⟨a2, k2⟩, k3⟩ := QT.xs_s b ps m1 _ y2 m2 hy h1
          refine ⟨k1, ⟨a1 ++ a2, by rw [k2, h2, List.append_assoc]⟩, fun E0 v rsF ⟨c, hc⟩ s hp => ?_⟩
          simp only [hL] at hp
          obtain ⟨u, us, hv, hp1, hp2⟩ := hp
          simp only [QT.mks, hL]
          exact ⟨u, us, hv, h3 E0 u rsF ⟨a2 ++ c, by rw [hc, k2, List.append_assoc]⟩ s hp1, k3 E0 us rsF ⟨c, hc⟩ s hp2⟩
        · cases h
      · cases h
    · cases h
  | .v _, ps, m, rw0, y, mF, h, _ => by simp [QT.xs] at h
  | .own _ _, ps, m, rw0, y, mF, h, _ => by simp [QT.xs] at h
  | .ptr _, ps, m, rw0, y, mF, h, _ => by simp [QT.xs] at h
  | .nil _, ps, m, rw0, y, mF, h, _ => by simp [QT.xs] at h
end
theorem selfA_s {am : List (Nat × Nat)} : ∀ {n : Nat}, selfA am n = true → ∀ {k : Nat}, k < n → lkA am k = some k
  | 0, _, k, hk => by omega
  | n + 1, h, k, hk => by
    simp only [selfA, Bool.and_eq_true] at h
    by_cases hkn : k = n
    · subst hkn
      have h1 := h.1
      split at h1
      · rename_i i hi; rw [hi, Nat.eq_of_beq_eq_true h1]
      · cases h1
    · exact selfA_s h.2 (by omega)
end
end Go.Vc

namespace Go.Vc
open Go Go.RowKit
/-! ### What a function leaves -/
theorem bkM_len : ∀ (l : List BK) (r : DT) (z : (bkT l r).den) (rw : List DR), (bkM l r z rw).1.length = l.length
  | [], _, _, _ => rfl
  | Bk :: l, r, z, rw => by simp only [bkM, List.length_cons]; rw [bkM_len l r]
section
variable {V : World} {U0 L : Nat → Prop} {B : Nat → Nat} {A : Asg} {pb : DBs} {rw : List DR} {w : World}
theorem lend_blk {σ : Nat → Option Nat} {rs : List (Option Nat)} {pb0 : DBs} {rw0 : List DR} (hb : ∀ (k : Nat) (b0 : DB), pb0[k]? = some (some b0) → ∃ i b, σ k = some i ∧ pb[i]? = some (some b) ∧ b0.ty = b.ty ∧ b0.w = true)
    (hr : ∀ (n : Nat) (r : DR), rw0[n]? = some r → (∃ j e t l, rs[n]? = some (some j) ∧ rw[j]? = some r ∧ r = .own e t l) ∨ (rs[n]? = some none ∧ ∃ e t, r = .own e t [])) :
    (∀ n b, blk (lB B σ) (lA A rs) pb0 rw0 true n b → ∃ j, rs[n]? = some (some j) ∧ blk B A pb rw true j b) ∧ (∀ k b, blk (lB B σ) (lA A rs) pb0 rw0 false k b → ∃ i, σ k = some i ∧ blk B A pb rw false i b) := by
  constructor
  · rintro n b ⟨r, ad, g1, g2, g3, g4⟩
    rcases hr n r g1 with ⟨j, e, t, l, k1, k2, k3⟩ | ⟨k1, _⟩
    · refine ⟨j, k1, r, ad, k2, g2, ?_, g4⟩
      simpa only [lA, k1] using g3
    · simp only [lA, k1] at g3; cases g3
  · rintro k b ⟨⟨b0, g1⟩, g2⟩
    obtain ⟨i, b1, k1, k2, _⟩ := hb k b0 g1
    exact ⟨i, k1, ⟨b1, k2⟩, by simpa only [lB, k1, Option.getD_some] using g2⟩
theorem Mem.leave (m : Mem V U0 L B A pb rw w) {σ : Nat → Option Nat} {rs : List (Option Nat)} {pb0 : DBs} {rw0 : List DR}
    (hb : ∀ (k : Nat) (b0 : DB), pb0[k]? = some (some b0) → ∃ i b, σ k = some i ∧ pb[i]? = some (some b) ∧ b0.ty = b.ty ∧ b0.w = true)
    (hc : ∀ (k : Nat) (b0 : DB) (i : Nat) (b : DB), pb0[k]? = some (some b0) → σ k = some i → pb[i]? = some (some b) → ∀ vs, hL (env U0 B A pb rw w) b.cells vs → hL (env U0 (lB B σ) (lA A rs) pb0 rw0 w) b0.cells vs)
    (hσ : ∀ (k k' i : Nat), σ k = some i → σ k' = some i → k = k')
    (hr : ∀ (n : Nat) (r : DR), rw0[n]? = some r → (∃ j e t l, rs[n]? = some (some j) ∧ rw[j]? = some r ∧ r = .own e t l) ∨ (rs[n]? = some none ∧ ∃ e t, r = .own e t []))
    (hρ : ∀ (n n' j : Nat), rs[n]? = some (some j) → rs[n']? = some (some j) → n = n') : Mem V U0 L (lB B σ) (lA A rs) pb0 rw0 w := by
  obtain ⟨h1, h2⟩ := lend_blk (B := B) (A := A) hb hr
  have h3 : ∀ k i b, blk (lB B σ) (lA A rs) pb0 rw0 k i b → ∃ i', blk B A pb rw k i' b := by
    intro k i b h
    cases k with
    | true => obtain ⟨j, _, h⟩ := h1 i b h; exact ⟨j, h⟩
    | false => obtain ⟨j, _, h⟩ := h2 i b h; exact ⟨j, h⟩
  have hU : ∀ b, Us U0 (lB B σ) (lA A rs) pb0 rw0 b → Us U0 B A pb rw b := by
    rintro b (h | ⟨k, i, h⟩)
    · exact .inl h
    · obtain ⟨i', h⟩ := h3 k i b h; exact .inr ⟨k, i', h⟩
  refine ⟨m.os, m.tape, m.output, m.size, m.same, m.u0, fun k i b h => ?_, fun k i k' i' b h h' => ?_, fun k b0 h => ?_, fun n e t l h => ?_, fun n d h => ?_⟩
  · obtain ⟨i', g⟩ := h3 k i b h; exact m.low k i' b g
  · cases k with
    | true =>
      obtain ⟨j, g1, g2⟩ := h1 i b h
      cases k' with
      | true => obtain ⟨j', g3, g4⟩ := h1 i' b h'; have := (m.inj _ _ _ _ _ g2 g4).2; subst this; exact ⟨rfl, hρ _ _ _ g1 g3⟩
      | false => obtain ⟨j', g3, g4⟩ := h2 i' b h'; have := (m.inj _ _ _ _ _ g2 g4).1; cases this
    | false =>
      obtain ⟨j, g1, g2⟩ := h2 i b h
      cases k' with
      | true => obtain ⟨j', g3, g4⟩ := h1 i' b h'; have := (m.inj _ _ _ _ _ g2 g4).1; cases this
      | false => obtain ⟨j', g3, g4⟩ := h2 i' b h'; have := (m.inj _ _ _ _ _ g2 g4).2; subst this; exact ⟨rfl, hσ _ _ _ g1 g3⟩
  · obtain ⟨i, b, g1, g2, g3, g4⟩ := hb k b0 h
    obtain ⟨cs, k1, k2, _⟩ := m.box i b g2
    exact ⟨cs, by simp only [lB, g1, Option.getD_some, g3]; exact k1, hc k b0 i b h g1 g2 cs k2, fun hw => by rw [g4] at hw; cases hw⟩
  · rcases hr n _ h with ⟨j, e', t', l', k1, k2, k3⟩ | ⟨k1, e', t', k3⟩
    · obtain ⟨xs, g1, g2⟩ := m.row j e t l k2
      refine ⟨xs, by simp only [lA, k1]; exact g1, DT.hs_mono ⟨fun _ _ _ => rfl, Nat.le_refl _, fun b _ h => hU b h⟩ g2⟩
    · simp only [DR.own.injEq] at k3
      obtain ⟨rfl, rfl, k3⟩ := k3
      cases k3
      exact ⟨[], by simp only [lA, k1]; exact World.ownsRow_nil w 0 e t.size, DT.hs_nil⟩
  · rcases hr n _ h with ⟨j, e', t', l', k1, k2, k3⟩ | ⟨k1, e', t', k3⟩ <;> cases k3
/-- THE END -/
theorem fin_ok (m : Mem V U0 L B A pb rw w) {El : List BK} {Q : QT} {am : List (Nat × Nat)} {e : (bkT El .unit).den} {y : Q.den} {p : DV} {v : Value} {ms ms' : MS} (hp : p.h (env U0 B A pb rw w) v)
    (hnd : nodupN (sndN am) = true) (hkl : keysLt am El.length = true) (hX : bkX am pb El 0 .unit ⟨[], rw⟩ (fun m => some ((), m)) = some (e, ms)) (hQ : Q.x am p ms = some (y, ms')) :
    ∃ A', Mem V U0 L (lB B (lkA am)) A' (bkM El .unit e []).1 (Q.mk y (bkM El .unit e []).2.2).2 w ∧ (Q.mk y (bkM El .unit e []).2.2).1.h (env U0 (lB B (lkA am)) A' (bkM El .unit e []).1 (Q.mk y (bkM El .unit e []).2.2).2 w) v ∧
      (bkM El .unit e []).1.length = El.length ∧ ∀ k, k < El.length → live (bkM El .unit e []).1 k := by
  obtain ⟨z0, m1, rw1, g1, g2, g3, ⟨a1, g4⟩, ⟨b1, g5⟩, g6, g7, g8⟩ := bkX_s (am := am) (E := env U0 B A pb rw w) El 0 .unit ⟨[], rw⟩ _ [] e ms hX (MI.nil (env U0 B A pb rw w))
  simp only [Option.some.injEq, Prod.mk.injEq] at g1
  obtain ⟨_, rfl⟩ := g1
  obtain ⟨k1, ⟨a2, k2⟩, k3⟩ := QT.x_s (am := am) (E := env U0 B A pb rw w) Q p m1 rw1 y ms' hQ g3
  have e1 : (bkM El .unit e []).2.2 = rw1 := by rw [g2]
  rw [e1]
  generalize hpb0 : (bkM El .unit e []).1 = pb0 at g6 g7 g8
  generalize hrw2 : (Q.mk y rw1).2 = rw2 at k1
  have hbw : ∀ (k : Nat) (b0 : DB), pb0[k]? = some (some b0) → ∃ i b, lkA am k = some i ∧ pb[i]? = some (some b) ∧ b0.ty = b.ty ∧ b0.w = true := fun k b0 h => by
    obtain ⟨i, b, h1, h2, h3, h4, _⟩ := g7 k b0 h
    rw [Nat.zero_add] at h1
    exact ⟨i, b, h1, h2, h3, h4⟩
  have hr := k1.row
  obtain ⟨h1, h2⟩ := lend_blk (B := B) (A := A) hbw hr
  have tri : TrI am ms'.rs (env U0 B A pb rw w) (env U0 (lB B (lkA am)) (lA A ms'.rs) pb0 rw2 w) := by
    refine ⟨⟨fun _ _ _ => rfl, Nat.le_refl _, fun b _ hu => ?_⟩, fun k i hk hl => ?_, fun n j e t l hn hj => ?_, fun n hn => ?_⟩
    · rcases hu with hu | ⟨k, i, hu⟩
      · exact .inl hu
      · cases k with
        | true => obtain ⟨j, _, h⟩ := h1 i b hu; exact .inr ⟨_, j, h⟩
        | false => obtain ⟨j, _, h⟩ := h2 i b hu; exact .inr ⟨_, j, h⟩
    · obtain ⟨b0, hb0⟩ := g8 k (keysLt_s hkl hk)
      refine ⟨⟨b0, hb0⟩, ?_⟩
      show lB B (lkA am) k = B i
      simp only [lB, hk, Option.getD_some]
    · obtain ⟨n', hn'⟩ : ∃ r, rw2[n]? = some r := ⟨_, List.getElem?_eq_getElem (by rw [← k1.len]; exact (List.getElem?_eq_some_iff.1 hn).1)⟩
      rcases hr n n' hn' with ⟨j', e', t', l', c1, c2, c3⟩ | ⟨c1, _⟩
      · rw [hn] at c1; simp only [Option.some.injEq] at c1; subst c1
        rw [hj] at c2; simp only [Option.some.injEq] at c2
        refine ⟨by rw [c2]; exact hn', ?_⟩
        show lA A ms'.rs n = A j
        simp only [lA, hn]
      · rw [hn] at c1; cases c1
    · obtain ⟨n', hn'⟩ : ∃ r, rw2[n]? = some r := ⟨_, List.getElem?_eq_getElem (by rw [← k1.len]; exact (List.getElem?_eq_some_iff.1 hn).1)⟩
      rcases hr n n' hn' with ⟨j', e', t', l', c1, c2, c3⟩ | ⟨_, e, t, c1⟩
      · rw [hn] at c1; cases c1
      · refine ⟨⟨e, t, by rw [← c1]; exact hn'⟩, ?_⟩
        show lA A ms'.rs n = (none, 0)
        simp only [lA, hn]
  refine ⟨lA A ms'.rs, m.leave hbw (fun k b0 i b c1 c2 c3 us hu => ?_) (fun k k' i h h' => lkA_inj hnd h h') hr k1.inj, k3 _ v ms'.rs ⟨[], by simp⟩ tri hp, g6, g8⟩
  obtain ⟨i', b', d1, d2, _, _, d5⟩ := g7 k b0 c1
  rw [Nat.zero_add, c2] at d1; simp only [Option.some.injEq] at d1; subst d1
  have d2 : pb[i]? = some (some b') := d2
  rw [c3] at d2; simp only [Option.some.injEq] at d2; subst d2
  have pre : ∀ (n : Nat) (x : Option Nat), m1.rs[n]? = some x → ms'.rs[n]? = some x := fun n x hn => by
    rw [k2, List.getElem?_append_left (List.getElem?_eq_some_iff.1 hn).1]; exact hn
  exact d5 _ ⟨[], by simp⟩ ⟨tri.sl, tri.bx, fun n j e t l hn hj => tri.row n j e t l (pre n _ hn) hj, fun n hn => tri.nil n (pre n _ hn)⟩ us hu
end
/-! ### Results, and the first slots -/
section
variable {P : Program} {T : List TI} {V : World} {U0 L : Nat → Prop} {B : Nat → Nat} {A : Asg} {ts : List DV} {pb : DBs} {rw : List DR} {a : Act} {w : World} {β : Type} {q : β} {C : ESs} {O : DTs} {JC JL : List (Nat × DJ)}
def resOne (tmps : Array Value) : ResultVar → Sem Value
  | .tmp t => pure (tmps.getD t undef)
  | .cell c t => do loadVar t (← asAddr (tmps.getD c undef))
theorem resE_s (hT : TableOk P T) (m : Mem V U0 L B A pb rw w) (hts : hL (env U0 B A pb rw w) ts a.tmps.toList) : ∀ (rs : List ResultVar) {K : List DV → Option β}, resE stdW T rs ts pb rw K = some q →
    ∃ xs vs, K xs = some q ∧ hL (env U0 B A pb rw w) xs vs ∧ (rs.mapM (resOne a.tmps)).run P w = .ok vs w
  | [], K, h => ⟨[], [], h, by simp [hL], by simp⟩
  | .tmp t :: rs, K, h => by
    simp only [resE] at h
    split at h
    · rename_i x hx
      obtain ⟨xs, vs, h1, h2, h3⟩ := resE_s hT m hts rs h
      have hv := gtV_h hx hts
      refine ⟨x :: xs, ((a.tmps.toList[t]?).getD undef) :: vs, h1, ?_, ?_⟩
      · simp only [hL]; exact ⟨_, _, rfl, hv, h2⟩
      · have e : a.tmps.getD t undef = (a.tmps.toList[t]?).getD undef := by simp
        simp only [List.mapM_cons, resOne, Sem.run_bind, Sem.run_pure, Result.andThen_ok, h3, e]
    · cases h
  | .cell c t :: rs, K, h => by
    simp only [resE] at h
    split at h
    · rename_i x hx
      have hv := gtV_h hx hts
      obtain ⟨r, u, ad, e1, g1, g2, g3, _⟩ := loadE_ok (P := P) hT m h hv
      obtain ⟨xs, vs, h1, h2, h3⟩ := resE_s hT m hts rs g1
      refine ⟨r :: xs, u :: vs, h1, ?_, ?_⟩
      · simp only [hL]; exact ⟨_, _, rfl, g2, h2⟩
      · have hr := g3 w rfl
        have e : a.tmps.getD c undef = .pointer (some ad) := by rw [← e1]; simp
        rw [e1] at hr
        simp only [Instr.loadAt, Instr.sureAddr, Sem.run_bind, Sem.run_pure, Result.andThen_ok] at hr
        simp only [List.mapM_cons, resOne, Sem.run_bind, e, asAddr, Sem.run_pure, Result.andThen_ok, hr, h3]
    · cases h
def oneW (vs : List Value) : Value := match vs with | [v] => v | vs => .tuple vs.toArray
theorem results_s (hT : TableOk P T) (m : Mem V U0 L B A pb rw w) (hts : hL (env U0 B A pb rw w) ts a.tmps.toList) {fn : Func} {K : List DV → Option β} (h : resE stdW T fn.results.toList ts pb rw K = some q) :
    ∃ xs v, K xs = some q ∧ (oneV xs).h (env U0 B A pb rw w) v ∧ (results fn a.tmps).run P w = .ok v w := by
  obtain ⟨xs, vs, h1, h2, h3⟩ := resE_s hT m hts _ h
  refine ⟨xs, oneW vs, h1, ?_, ?_⟩
  · cases xs with
    | nil => simp only [hL] at h2; subst h2; simp only [oneV, DV.h]; exact ⟨#[], rfl, by simp [hL]⟩
    | cons x xs =>
      cases xs with
      | nil =>
        simp only [hL] at h2
        obtain ⟨v, vs', rfl, h4, rfl⟩ := h2
        exact h4
      | cons y xs =>
        have h4 := h2
        simp only [hL] at h4
        obtain ⟨v, vs', rfl, _, v2, vs2, rfl, _⟩ := h4
        simp only [oneV, DV.h]
        exact ⟨_, rfl, h2⟩
  · unfold results
    rw [Sem.run_bind, Array.mapM_eq_mapM_toList, Sem.run_map]
    have e : ∀ f : ResultVar → Sem Value, f = resOne a.tmps → (fn.results.toList.mapM f).run P w = (fn.results.toList.mapM (resOne a.tmps)).run P w := fun f h => by rw [h]
    rw [e _ (by funext x; cases x <;> rfl), h3]
    simp only [Result.andThen_ok]
    match vs with
    | [] => simp [oneW]
    | [x] => simp [oneW]
    | x :: y :: zs => simp [oneW]
theorem initE_s : ∀ (xs : List DV) (n : Nat) {K : List DV → Option β}, initE xs n K = some q → K (xs ++ List.replicate (n - xs.length) .und) = some q ∧ xs.length ≤ n
  | [], n, K, h => ⟨by simpa [initE] using h, by simp⟩
  | x :: xs, n + 1, K, h => by
    have := initE_s xs n h
    simpa using this
  | _ :: _, 0, _, h => by simp [initE] at h
theorem hL_und {E : Env} : ∀ n, hL E (List.replicate n .und) (List.replicate n undef)
  | 0 => by simp [hL]
  | n + 1 => by simp only [List.replicate_succ, hL, DV.h]; exact ⟨_, _, rfl, rfl, hL_und n⟩
/-- WHAT THE EVALUATOR FINDS IS WHAT THE FUNCTION DOES -/
theorem body_ok [EqB β] (hT : TableOk P T) (hC : CsOk P C) (hm : P.follows .mixedOrders = true) {f : FuncId} {fn : Func} {c : Code} (hf : P.funcs[f]? = some fn) (hb : fn.body = some c) (hn : (fn.name == "runtime.NumGoroutine") = false)
    {args : List DV} {R : Exit → DK β} {G : Value → World → Prop} {vs : List Value} (h : initE args fn.ntmps (fun ts => ev stdW T C O JC JL c R ts pb rw) = some q) (m : Mem V U0 L B A pb rw w) (hargs : hL (env U0 B A pb rw w) args vs)
    (hR : ∀ (e : Exit), ¬ (e = .normal ∨ e = .ret) → ∀ ts pb rw, R e ts pb rw ≠ some q)
    (hG : ∀ (e : Exit), (e = .normal ∨ e = .ret) → ∀ (B' : Nat → Nat) (A' : Asg) (ts' : List DV) (pb' : DBs) (rw' : List DR) (a' : Act) (w' : World), Mem V U0 L B' A' pb' rw' w' → hL (env U0 B' A' pb' rw' w') ts' a'.tmps.toList → (∀ i, live pb i → live pb' i ∧ B' i = B i) → R e ts' pb' rw' = some q →
      ∃ v, (results fn a'.tmps).run P w' = .ok v w' ∧ G v w') : CallsX P f vs.toArray w G := by
  refine ⟨.inl ⟨⟨fn, hf, hn, by simp [hb]⟩, ?_⟩⟩
  obtain ⟨h, hlen⟩ := initE_s _ _ h
  have e : ({ tmps := vs.toArray ++ Array.replicate (fn.ntmps - vs.toArray.size) undef, defers := [] } : Act).tmps.toList = vs ++ List.replicate (fn.ntmps - args.length) undef := by
    simp [hL_len hargs]
  have hts : hL (env U0 B A pb rw w) (args ++ List.replicate (fn.ntmps - args.length) .und) ({ tmps := vs.toArray ++ Array.replicate (fn.ntmps - vs.toArray.size) undef, defers := [] } : Act).tmps.toList := by
    rw [e]; exact hL_app hargs (hL_und _)
  refine calls_of_wp hf hb (wp_mono (ev_ok hT hC hm c h m hts) fun e a' w' hq => ?_)
  obtain ⟨he, ⟨B', A', ts', pb', rw', m', h1, h2, h3, h4⟩, _⟩ := hq
  cases e with
  | normal =>
    obtain ⟨v, k1, k2⟩ := hG _ (.inl rfl) _ _ _ _ _ _ _ m' h1 h4 h2
    exact ⟨h3, v, k1, v, rfl, k2⟩
  | ret =>
    obtain ⟨v, k1, k2⟩ := hG _ (.inr rfl) _ _ _ _ _ _ _ m' h1 h4 h2
    exact ⟨h3, v, k1, v, rfl, k2⟩
  | exit i => exact absurd h2 (hR _ (by simp) _ _ _)
  | _ => exact he.elim
theorem evFL_ok (hT : TableOk P T) (hC : CsOk P C) (hm : P.follows .mixedOrders = true) {f : FuncId} {fn : Func} {c : Code} (hf : P.funcs[f]? = some fn) (hb : fn.body = some c) (hn : (fn.name == "runtime.NumGoroutine") = false) {s : LS}
    (h : ∀ z o, s.fn z = some o → evFL stdW T C O JC JL fn s z = some o) : LSok P f s := by
  intro z o hz U0 B A vs w m hargs
  have h := h z o hz
  unfold evFL at h
  rw [hb] at h
  have hlen : (bkM s.B (pkT s.P .unit) z []).1.length = s.B.length := bkM_len _ _ _ _
  generalize bkM s.B (pkT s.P .unit) z [] = bm at h m hargs hlen ⊢
  obtain ⟨pb, y, rw0⟩ := bm
  dsimp only at h m hargs hlen ⊢
  generalize pkM s.P .unit y rw0 = pm at h m hargs ⊢
  obtain ⟨args, u, rw⟩ := pm
  dsimp only at h m hargs ⊢
  have hB : ∀ i, live pb i → i < s.B.length := fun i hi => by rw [← hlen]; exact live_lt hi
  letI := s.Q.eqb
  letI := (bkT s.E .unit).eqb
  have h : initE args fn.ntmps (fun ts => ev stdW T C O JC JL c (retL stdW T fn.results.toList s) ts pb rw) = some o := h
  refine body_ok hT hC hm hf hb hn h m hargs (fun e he ts pb rw hh => ?_) fun e he B' A' ts' pb' rw' a' w' m' hts hl hh => ?_
  · cases e <;> first | exact he (.inl rfl) | exact he (.inr rfl) | (simp only [retL] at hh; cases hh)
  · have hh : resE stdW T fn.results.toList ts' pb' rw' (fun xs => finL s ts' pb' rw' (oneV xs)) = some o := by
      rcases he with rfl | rfl <;> exact hh
    obtain ⟨xs, v, h1, h2, h3⟩ := results_s (P := P) hT m' hts hh
    refine ⟨v, h3, ?_⟩
    unfold finL at h1
    generalize idsB s.E 0 pb' (s.Q.ids (oneV xs) (idA s.B.length)) = am at h1
    dsimp only at h1
    obtain ⟨ts2, pb2, rw2, ps, h4, m2, _, h5, e2, _⟩ := frzE_s (al := fun _ => true) _ h1 m' hts (ps := [oneV xs]) (us := [v]) (by simp only [hL]; exact ⟨_, _, rfl, h2, rfl⟩)
    split at h4
    · rename_i p
      simp only [hL] at h5
      obtain ⟨v', vs', e5, h5, rfl⟩ := h5
      simp only [List.cons.injEq, and_true] at e5; subst e5
      split at h4
      · rename_i ee ms hck hX
        simp only [Bool.and_eq_true] at hck
        split at h4
        · rename_i y2 ms' hQ
          simp only [Option.some.injEq] at h4; subst h4
          obtain ⟨A3, m3, k1, k2, k3⟩ := fin_ok m2 h5 hck.1.1 hck.1.2 hX hQ
          refine ⟨_, A3, _, _, _, m3, k1, fun i hi => ?_, rfl, rfl⟩
          have hi2 := hB i hi
          have hlk := selfA_s hck.2 hi2
          refine ⟨k3 i (keysLt_s hck.1.2 hlk), ?_⟩
          simp only [lB, hlk, Option.getD_some]
          exact (hl i hi).2
        · cases h4
      · cases h4
    · cases h4
theorem evF_ok (hT : TableOk P T) (hC : CsOk P C) (hm : P.follows .mixedOrders = true) {f : FuncId} {fn : Func} {c : Code} (hf : P.funcs[f]? = some fn) (hb : fn.body = some c) (hn : (fn.name == "runtime.NumGoroutine") = false) {s : ES}
    (h : ∀ x q, s.fn x = some q → evF stdW T C O JC JL fn s.P s.Q x = some q) : ESok P f s := by
  intro x o hx U0 B A vs w m hargs
  have h := h x o hx
  unfold evF at h
  rw [hb] at h
  letI := s.Q.eqb
  have h : initE (argVs s.P x) fn.ntmps (fun ts => ev stdW T C O JC JL c (retD stdW T fn.results.toList s.Q) ts [] []) = some o := h
  refine body_ok hT hC hm hf hb hn h m hargs (fun e he ts pb rw hh => ?_) fun e he B' A' ts' pb' rw' a' w' m' hts hl hh => ?_
  · cases e <;> first | exact he (.inl rfl) | exact he (.inr rfl) | (simp only [retD] at hh; cases hh)
  · have hh : resE stdW T fn.results.toList ts' pb' rw' (fun xs => finD s.Q ts' pb' rw' (oneV xs)) = some o := by
      rcases he with rfl | rfl <;> exact hh
    obtain ⟨xs, v, h1, h2, h3⟩ := results_s (P := P) hT m' hts hh
    refine ⟨v, h3, ?_⟩
    unfold finD at h1
    obtain ⟨ts2, pb2, rw2, ps, h4, m2, _, h5, e2, _⟩ := frzE_s (al := fun _ => true) _ h1 m' hts (ps := [oneV xs]) (us := [v]) (by simp only [hL]; exact ⟨_, _, rfl, h2, rfl⟩)
    split at h4
    · rename_i p
      simp only [hL] at h5
      obtain ⟨v', vs', e5, h5, rfl⟩ := h5
      simp only [List.cons.injEq, and_true] at e5; subst e5
      split at h4
      · rename_i y2 ms' hQ
        simp only [Option.some.injEq] at h4; subst h4
        obtain ⟨A3, m3, k1, k2, k3⟩ := fin_ok (El := []) (am := []) (e := ()) m2 h5 rfl rfl rfl hQ
        exact ⟨_, A3, _, _, _, m3, k1, fun i hi => (by obtain ⟨b, hb⟩ := hi; simp at hb), rfl, rfl⟩
      · cases h4
    · cases h4
end
end Go.Vc

namespace Go.Vc
open Go Go.RowKit
/-! ### Contracts of a program's functions, each with its proof -/
/-- a tree without forks: true = a reader -/
def ofL : List (Nat × Bool) → OT
  | [] => .nil
  | (i, true) :: l => .rd i (ofL l)
  | (i, false) :: l => .op i (ofL l)
abbrev DS.i : DS := .t (.int .i64)
abbrev DS.b : DS := .t .bool
abbrev PK.i : PK := .v (.int .i64)
abbrev PK.b : PK := .v .bool
abbrev QT.i : QT := .v (.int .i64)
abbrev QT.b : QT := .v .bool
abbrev DT.p1 (a : DT) : DT := .pair a .unit
abbrev DT.p2 (a b : DT) : DT := .pair a (.pair b .unit)
abbrev DT.p3 (a b c : DT) : DT := .pair a (.pair b (.pair c .unit))
abbrev DT.p4 (a b c d : DT) : DT := .pair a (.pair b (.pair c (.pair d .unit)))
abbrev DT.p5 (a b c d e : DT) : DT := .pair a (.pair b (.pair c (.pair d (.pair e .unit))))
abbrev QT.p1 (a : QT) : QT := .pair a .unit
abbrev QT.p2 (a b : QT) : QT := .pair a (.pair b .unit)
abbrev QT.p3 (a b c : QT) : QT := .pair a (.pair b (.pair c .unit))
abbrev QT.p4 (a b c d : QT) : QT := .pair a (.pair b (.pair c (.pair d .unit)))
abbrev QT.p5 (a b c d e : QT) : QT := .pair a (.pair b (.pair c (.pair d (.pair e .unit))))
structure KC (P : Program) where
  n : Nat
  c : Wd → EC
  ok : ECok P n (c stdW)
def kcs {P : Program} : List (KC P) → Wd → ESs
  | [], _ => []
  | k :: l, W => (k.n, k.c W) :: kcs l W
theorem kcs_ok {P : Program} : ∀ l : List (KC P), CsOk P (kcs l stdW)
  | [] => trivial
  | k :: l => ⟨k.ok, kcs_ok l⟩
/-- what is asked of a program, once -/
structure KProg (P : Program) (T : List TI) : Prop where
  tab : TableOk P T
  mixed : P.follows .mixedOrders = true
def kes {P : Program} {T : List TI} (kp : KProg P T) (n : Nat) (A : DT) (Q : QT) (F : Wd → A.den → Option Q.den) (l : List (KC P)) (O : DTs) (JC JL : List (Nat × DJ)) {fn : Func} {c : Code} (hf : P.funcs[n]? = some fn) (hb : fn.body = some c) (hn : (fn.name == "runtime.NumGoroutine") = false := by decide +kernel)
    (h : ∀ W x, evF W T (kcs l W) O JC JL fn A Q x = F W x) : KC P :=
  ⟨n, fun W => .es ⟨A, Q, F W⟩, evF_ok kp.tab (kcs_ok l) kp.mixed hf hb hn fun x q hx => (h stdW x).trans hx⟩
def kls {P : Program} {T : List TI} (kp : KProg P T) (n : Nat) (B : List BK) (A : List PK) (E : List BK) (Q : QT) (F : Wd → (bkT B (pkT A .unit)).den → Option (Q.den × (bkT E .unit).den)) (l : List (KC P)) (O : DTs) (JC JL : List (Nat × DJ)) {fn : Func} {c : Code} (hf : P.funcs[n]? = some fn) (hb : fn.body = some c) (hn : (fn.name == "runtime.NumGoroutine") = false := by decide +kernel)
    (h : ∀ W z, evFL W T (kcs l W) O JC JL fn ⟨B, A, E, Q, F W⟩ z = F W z) : KC P :=
  ⟨n, fun W => .ls ⟨B, A, E, Q, F W⟩, evFL_ok kp.tab (kcs_ok l) kp.mixed hf hb hn fun z o hz => (h stdW z).trans hz⟩
end Go.Vc