import Derived.Test.YtclleaffonkegaaGreatB3
import Derived.Laws.Bits64
import Derived.Laws.Bits64b
namespace Go.Vc
open Go Go.RowKit
mutual
theorem PK.view_ex (rw : List DR) : (p : PK) → (u : DV) → ∃ u', ∀ {β : Type} (K : DV → Option β), p.view rw u K = K u'
  | .v t, u => ⟨u.sub (viewD rw), fun K => by simp only [PK.view, DV.subE_eq]⟩
  | .row e t, u => ⟨u, fun K => by cases u <;> rfl⟩
  | .ptr k, u => ⟨u, fun K => by cases u <;> rfl⟩
  | .fn g l, u => by
    cases u with
    | fn g' cs => obtain ⟨us, h⟩ := viewL_ex rw l cs; exact ⟨.fn g' us, fun K => by simp only [PK.view]; rw [h]⟩
    | _ => exact ⟨_, fun K => rfl⟩
  | .agg l, u => by
    cases u with
    | agg cs => obtain ⟨us, h⟩ := viewL_ex rw l cs; exact ⟨.agg us, fun K => by simp only [PK.view]; rw [h]⟩
    | _ => exact ⟨_, fun K => rfl⟩
  | .fns l, u => by
    cases u with
    | fns cs => obtain ⟨us, h⟩ := viewL_ex rw l cs; exact ⟨.fns us, fun K => by simp only [PK.view]; rw [h]⟩
    | _ => exact ⟨_, fun K => rfl⟩
  | .nil n, u => ⟨u, fun K => by cases u <;> rfl⟩
theorem viewL_ex (rw : List DR) : (l : List PK) → (us : List DV) → ∃ us', ∀ {β : Type} (K : List DV → Option β), viewL rw l us K = K us'
  | [], us => ⟨us, fun K => rfl⟩
  | _ :: _, [] => ⟨[], fun K => rfl⟩
  | p :: l, u :: us => by
    obtain ⟨u', h1⟩ := PK.view_ex rw p u
    obtain ⟨us', h2⟩ := viewL_ex rw l us
    exact ⟨u' :: us', fun K => by simp only [viewL]; rw [h1, h2]⟩
end
section
variable {P : Program} {T : List TI} {V : World} {U0 L : Nat → Prop} {al : Nat → Bool} {B : Nat → Nat} {A : Asg} {ts : List DV} {pb : DBs} {rw : List DR} {a : Act} {w : World} {β : Type} {q : β} {o : Oper} {K : DK β} {Q : Exit → Act → World → Prop} {C : ESs} {av : List (Nat × Nat)}
def OD.obj? : OD → Option (List KU)
  | .set ks => some ks
  | _ => none
/-- rows of one's own, read as they stand -/
theorem Mem.viewE (m : Mem V U0 L B A pb rw w) {U' : Nat → Prop} {h : Nat → Prop} (hU : ∀ b, U' b → Us U0 B A pb rw b) (hn : ∀ j, ¬ h j → ∀ b, U' b → ¬ blk B A pb rw true j b) (f : Nat → Option DV) (hf : ∀ j, (h j ∧ f j = (viewD rw j).map fun _ => .junk) ∨ (¬ h j ∧ f j = viewD rw j)) :
    Sub f (env U0 B A pb rw w) ⟨U', w, B, A, pb, rw⟩ := by
  have hnone : ∀ j, f j = none → viewD rw j = none := fun j hj => by
    rcases hf j with ⟨_, h⟩ | ⟨_, h⟩
    · rw [hj] at h; simpa using h.symm
    · rw [← h]; exact hj
  refine ⟨⟨fun _ _ _ => rfl, Nat.le_refl _, fun b _ h => hU b h⟩, fun i h => ⟨h, rfl⟩, fun j e t l hj hr => ?_, fun j d _ h => ⟨⟨d, h, rfl⟩, rfl⟩, fun j p e t l hj hr => ?_, fun j p d ad hj hr ha => ?_⟩
  · have := hnone j hj
    have hr : rw[j]? = some (.own e t l) := hr
    rw [viewD_n hr] at this; cases this
  · have hr : rw[j]? = some (.own e t l) := hr
    rcases hf j with ⟨_, h⟩ | ⟨h0, h⟩
    · rw [hj, viewD_n hr] at h; simp only [Option.map_some, Option.some.injEq] at h; subst h; simp only [DV.h]
    · rw [hj, viewD_n hr] at h; simp only [Option.some.injEq] at h; subst h
      simp only [DV.h]
      exact m.viewRow hr hU (hn j h0)
  · have hr : rw[j]? = some (.obj d) := hr
    have hv : viewD rw j = match (OD.obj? d) with | some ks => some (.set ks) | none => none := by
      unfold viewD; rw [drV_spec, hr]; cases d <;> rfl
    cases d with
    | set ks =>
      rcases hf j with ⟨_, h⟩ | ⟨h0, h⟩
      · rw [hj, hv] at h; simp only [OD.obj?, Option.map_some, Option.some.injEq] at h; subst h; simp only [DV.h]
      · rw [hj, hv] at h; simp only [OD.obj?, Option.some.injEq] at h; subst h
        simp only [DV.h]
        exact m.viewSet hr ha (hn j h0)
    | _ => rcases hf j with ⟨_, h⟩ | ⟨h0, h⟩ <;> (rw [hj, hv] at h; simp [OD.obj?] at h)
theorem callM_ok {g : FuncId} {s : MU} {xs : List DV} {vs : List Value} (hs : MUok P g s) (h : callM stdW s xs ts pb rw (fun r ts pb rw => retE o.dst r ts pb rw K) = some q) (m : Mem V U0 L B A pb rw w) (hts : hL (env U0 B A pb rw w) ts a.tmps.toList) (hxs : hL (env U0 B A pb rw w) xs vs)
    (hrun : (execOp a.eval o).run P w = (callFunc g vs.toArray).run P w) : o.wp P a w (Nxt V U0 L al B A pb rw w a K q) Q := by
  unfold callM at h
  split at h
  · rename_i j ys
    split at h
    · rename_i e t l hj
      rw [drV_spec] at hj
      split at h
      · rename_i hh z ms hck hsame hX
        split at h
        · rename_i hrs
          subst hh
          obtain ⟨l', hl', h⟩ := call_s h
          rw [setE_eq] at h
          simp only [Bool.and_eq_true] at hck
          obtain ⟨hck, hfree⟩ := hck
          have he := Nat.eq_of_beq_eq_true hck
          subst he
          have hl' : s.fn l z = some l' := hl'
          obtain ⟨hlen, hc⟩ := hs l z l' hl'
          simp only [hL, DV.h] at hxs
          obtain ⟨v0, vs', rfl, ⟨e1, t1, l1, hj1, rfl⟩, hys⟩ := hxs
          have hj1 : rw[j]? = some (.own e1 t1 l1) := hj1
          rw [hj] at hj1; simp only [Option.some.injEq, DR.own.injEq] at hj1
          obtain ⟨rfl, rfl, hl1⟩ := hj1
          cases hl1
          obtain ⟨m0, hU, hr1, _⟩ := m.lend (σ := fun _ => none) (rs := [some j]) (bor := fun _ => False) (pb0 := []) (rw0 := [.own s.e s.t l]) (by simp) (by simp) (by simp)
            (fun n r hr => by
              cases n with
              | zero => simp at hr; subst hr; exact .inl ⟨j, _, _, _, rfl, hj, rfl⟩
              | succ n => simp at hr)
            (fun n n' k h1 h2 => by
              cases n with
              | zero => cases n' with
                | zero => rfl
                | succ n' => simp at h2
              | succ n => simp at h1)
          obtain ⟨z0, m1, rw1, k1, _, _, _, _, k6⟩ := pkX_s (am := []) (E := env U0 B A pb rw w) s.P .unit ys ⟨[], rw⟩ _ [] z ms hX (MI.nil (env U0 B A pb rw w))
          have hA0 : lA A [some j] 0 = A j := rfl
          have hLb : ∀ b, Ow (lB B fun _ => none) (lA A [some j]) [] [.own s.e s.t l] b → blk B A pb rw true j b := by
            rintro b ⟨k, i, hb⟩
            cases k with
            | false => obtain ⟨⟨_, hb⟩, _⟩ := hb; simp at hb
            | true =>
              obtain ⟨j', h1, h2⟩ := hr1 i b hb
              cases i with
              | zero => simp at h1; subst h1; exact h2
              | succ i => simp at h1
          refine call_wp hrun (hc _ _ _ _ w m0 ?_) ?_
          · simp only [hL, DV.h]
            refine ⟨_, _, rfl, ⟨_, _, _, rfl, by show _ = Value.slice (lA A [some j] 0).1 _ (lA A [some j] 0).2; rw [hA0]; rfl⟩, k6 _ _ ?_ ?_ hys⟩
            · simp only [Option.some.injEq, Prod.mk.injEq] at k1
              exact ⟨[], by rw [k1.2, List.append_nil]⟩
            · refine ⟨⟨fun _ _ _ => rfl, Nat.le_refl _, fun b _ hu => hU b hu⟩, fun k i hk => (by simp [lkA] at hk), fun n j' e t l hn => (by rw [hrs] at hn; simp at hn), fun n hn => (by rw [hrs] at hn; simp at hn)⟩
          · rintro v w' ⟨rfl, m'⟩
            have hlt := (List.getElem?_eq_some_iff.1 hj).1
            obtain ⟨m2, s2, e2⟩ := m.putRow (al := al) (j := j) (f := noF) (rw' := rw.set j (.own s.e s.t l')) (e := s.e) (t := s.t) (l := l') (a := (A j).1) (c := (A j).2) (w' := w')
              (by rw [List.getElem?_set, if_pos rfl, if_pos hlt]) (fun k hk => by rw [List.getElem?_set, if_neg (Ne.symm hk)]) (fun _ _ h => by cases h)
              (fun _ e4 t4 l4 h4 => by
                rw [hj] at h4; simp only [Option.some.injEq, DR.own.injEq] at h4
                obtain ⟨rfl, rfl, h4⟩ := h4
                cases h4
                exact ⟨_, by rw [List.getElem?_set, if_pos rfl, if_pos hlt], hlen, rfl⟩)
              (fun _ d h4 => by rw [hj] at h4; cases h4) ⟨m'.os, m'.tape, m'.output, m'.size⟩
              (fun b hb hnb => m'.same b hb fun h => hnb (hLb b h))
              (fun x hx => .inl ⟨_, x, hj, by simp, hx, rfl⟩)
              (fun U' lt => by
                obtain ⟨xs, h1, h2⟩ := m'.row 0 s.e s.t l' rfl
                rw [hA0] at h1
                exact ⟨xs, h1, h2.1, fun i x hi => s.t.h_free hfree (h2.2 i x hi)⟩)
            rw [show upd A j ((A j).1, (A j).2) = A from upd_eta A j] at m2 s2 e2
            rw [subB'_no] at m2 s2 e2
            exact Nxt.ret h m2 (noSub s2 hts) (by simp only [DV.h, hL]; exact ⟨#[], rfl, rfl⟩) e2
        · cases h
      · cases h
    · cases h
  · cases h
theorem callC_ok {g : FuncId} {c : EC} {xs : List DV} {vs : List Value} (hc : ECok P g c) (h : callC stdW c al xs ts pb rw (fun r ts pb rw => retE o.dst r ts pb rw K) = some q) (m : Mem V U0 L B A pb rw w) (hts : hL (env U0 B A pb rw w) ts a.tmps.toList) (hxs : hL (env U0 B A pb rw w) xs vs)
    (hrun : (execOp a.eval o).run P w = (callFunc g vs.toArray).run P w) : o.wp P a w (Nxt V U0 L al B A pb rw w a K q) Q := by
  unfold callC at h
  split at h
  · rename_i s
    exact callM_ok (show MUok P g s from hc) h m hts hxs hrun
  · rename_i s
    have hs : ESok P g s := hc
    split at h
    · rename_i hfree
      rw [subLE_eq] at h
      have sv := m.viewE (U' := lU (Us U0 B A pb rw) B A rw (fun _ => False) (fun _ => True)) (h := fun _ => False) (fun b h => h.1) (fun j _ b h hb => h.2.2 ⟨j, trivial, hb⟩) (viewD rw) (fun j => .inr ⟨id, rfl⟩)
      exact esF_ok false (fun _ => True) hs h m hts (hL_subL sv xs hxs) (fun h => by cases h) (fun _ => hfree) hrun
    · obtain ⟨ts1, pb1, rw1, ps, h, m1, hts1, hps, e1, _⟩ := frzE_s (al := al) _ h m hts hxs
      have s1 : Sub noF (env U0 B A pb1 rw1 w) ⟨lU (Us U0 B A pb1 rw1) B A rw1 (fun _ => False) (fun _ => False), w, B, A, pb1, rw1⟩ :=
        ⟨⟨fun _ _ _ => rfl, Nat.le_refl _, fun b _ h => h.1⟩, fun i h => ⟨h, rfl⟩, fun j e t l _ h => ⟨l, h, rfl, rfl⟩, fun j d _ h => ⟨⟨d, h, rfl⟩, rfl⟩, fun j p e t l h => (by cases h), fun j p d ad h => (by cases h)⟩
      have := esF_ok (al := al) (Q := Q) true (fun _ => False) hs h m1 hts1 (noSub s1 hps) (fun _ j h => h) (fun h => by cases h) hrun
      exact wp_mono0 this fun a' w' hn => Nxt.more e1 rfl hn
  · rename_i s
    have hs : LSok P g s := hc
    dsimp only at h
    split at h
    · rename_i hfree
      simp only [Bool.and_eq_true] at hfree
      obtain ⟨ts1, pb1, rw1, xs1, h, m1, hts1, hxs1, e1, _⟩ := frzE_s (al := al) _ h m hts hxs
      obtain ⟨ys, hys⟩ := viewL_ex rw1 s.P xs1
      rw [hys] at h
      have := callE_ok (al := al) (Q := Q) false hs h m1 hts1 (fun bor _ hb => by
        classical
        let f : Nat → Option DV := fun j => if bor j then viewD rw1 j else (viewD rw1 j).map fun _ => .junk
        have sv := m1.viewE (U' := fun b => Us U0 B A pb1 rw1 b ∧ ¬ ∃ j, bor j ∧ blk B A [] rw1 true j b) (h := fun j => ¬ bor j) (fun b h => h.1) (fun j hj b h hbl => h.2 ⟨j, Classical.not_not.1 hj, hbl⟩) f (fun j => by
          by_cases hbj : bor j
          · exact .inr ⟨Classical.not_not.2 hbj, if_pos hbj⟩
          · exact .inl ⟨hbj, if_neg hbj⟩)
        have s0 : Sub noF (env U0 B A pb1 rw1 w) ⟨fun b => Us U0 B A pb1 rw1 b ∧ ¬ ∃ j, bor j ∧ blk B A [] rw1 true j b, w, B, A, pb1, rw1⟩ :=
          ⟨⟨fun _ _ _ => rfl, Nat.le_refl _, fun b _ h => h.1⟩, fun i h => ⟨h, rfl⟩, fun j e t l _ h => ⟨l, h, rfl, rfl⟩, fun j d _ h => ⟨⟨d, h, rfl⟩, rfl⟩, fun j p e t l h => (by cases h), fun j p d ad h => (by cases h)⟩
        obtain ⟨⟨us, h1, h2, _⟩, _⟩ := viewL_s (q := ys) sv s0 (fun j => by
          show (if bor j then viewD rw1 j else (viewD rw1 j).map fun _ => DV.junk).isSome = _
          split
          · rfl
          · simp) s.P xs1 [] (fun l => some l) (fun j hj => if_pos (hb rfl j hj)) (hys some)
        simp only [Option.some.injEq] at h1; subst h1
        exact h2 vs hxs1) (fun _ => hfree) hrun
      exact wp_mono0 this fun a' w' hn => Nxt.more e1 rfl hn
    · obtain ⟨ts1, pb1, rw1, xs1, h, m1, hts1, hxs1, e1, _⟩ := frzE_s (al := al) _ h m hts hxs
      have := callE_ok (al := al) (Q := Q) true hs h m1 hts1 (fun bor hb _ => by
        have s1 : Sub noF (env U0 B A pb1 rw1 w) ⟨fun b => Us U0 B A pb1 rw1 b ∧ ¬ ∃ j, bor j ∧ blk B A [] rw1 true j b, w, B, A, pb1, rw1⟩ :=
          ⟨⟨fun _ _ _ => rfl, Nat.le_refl _, fun b _ h => h.1⟩, fun i h => ⟨h, rfl⟩, fun j e t l _ h => ⟨l, h, rfl, rfl⟩, fun j d _ h => ⟨⟨d, h, rfl⟩, rfl⟩, fun j p e t l h => (by cases h), fun j p d ad h => (by cases h)⟩
        exact noSub s1 hxs1) (fun h => by cases h) hrun
      exact wp_mono0 this fun a' w' hn => Nxt.more e1 rfl hn
theorem callL_ok {g : FuncId} {xs : List DV} {vs : List Value} (hts : hL (env U0 B A pb rw w) ts a.tmps.toList) (m : Mem V U0 L B A pb rw w) (hxs : hL (env U0 B A pb rw w) xs vs) (hrun : (execOp a.eval o).run P w = (callFunc g vs.toArray).run P w) :
    ∀ (l : List EC), (∀ c ∈ l, ECok P g c) → callL stdW al xs ts pb rw (fun r ts pb rw => retE o.dst r ts pb rw K) l = some q → o.wp P a w (Nxt V U0 L al B A pb rw w a K q) Q
  | [], _, h => by cases h
  | c :: l, hl, h => by
    unfold callL at h
    split at h
    · exact callC_ok (hl c (List.mem_cons_self ..)) h m hts hxs hrun
    · rename_i d l'
      have h : orF (callC stdW c al xs ts pb rw (fun r ts pb rw => retE o.dst r ts pb rw K)) (callL stdW al xs ts pb rw (fun r ts pb rw => retE o.dst r ts pb rw K) (d :: l')) = some q := h
      unfold orF at h
      split at h
      · rename_i x hx
        simp only [Option.some.injEq] at h; subst h
        exact callC_ok (hl c (List.mem_cons_self ..)) hx m hts hxs hrun
      · exact callL_ok hts m hxs hrun (d :: l') (fun c hc => hl c (List.mem_cons_of_mem _ hc)) h
theorem callV_ok {g : FuncId} {xs : List DV} {vs : List Value} (hC : CsOk P C) (h : callV stdW C al g xs ts pb rw (fun r ts pb rw => retE o.dst r ts pb rw K) = some q) (m : Mem V U0 L B A pb rw w) (hts : hL (env U0 B A pb rw w) ts a.tmps.toList) (hxs : hL (env U0 B A pb rw w) xs vs)
    (hrun : (execOp a.eval o).run P w = (callFunc g vs.toArray).run P w) : o.wp P a w (Nxt V U0 L al B A pb rw w a K q) Q :=
  callL_ok hts m hxs hrun _ (fun _ hc => esL_s hC hc) h
theorem op_call {c : Call} (hT : TableOk P T) (hC : CsOk P C) (ho : o.op = .call c) (h : evOp stdW T C al av o ts pb rw K = some q) (m : Mem V U0 L B A pb rw w) (hts : hL (env U0 B A pb rw w) ts a.tmps.toList) : o.wp P a w (Nxt V U0 L al B A pb rw w a K q) Q := by
  cases hcal : c.callee with
  | value f =>
    have h0 := h
    simp only [evOp, ho, hcal] at h
    split at h
    · rename_i g caps xs hf hx
      have hf := opV_h hf hts
      have hx := opsV_h hx hts
      simp only [DV.h] at hf
      obtain ⟨cv, hfv, hcv⟩ := hf
      split at h
      · rename_i hb
        refine callV_ok hC h m hts (hL_app hcv hx) ?_
        rw [call_first ho hcal (hfv.trans (fnV_t hb cv))]
        congr 2
        apply Array.ext'
        simp
      · rename_i hb
        refine callV_ok hC h m hts (hL_app hx hcv) ?_
        rw [call_resolve ho hcal (hfv.trans (fnV_f hb cv))]
        congr 2
        apply Array.ext'
        simp
    · cases h
  | invoke r s => simp only [evOp, ho, hcal] at h; cases h
  | builtin b =>
    have h0 := h
    simp only [evOp, ho, hcal] at h
    split at h
    · rename_i xs hops
      have hxs := opsV_h hops hts
      cases b with
      | append => exact op_append hT ho hcal hxs h0 hops m hts
      | clear => exact op_clear hT ho hcal hxs h0 hops m hts
      | copy => exact op_copy hT ho hcal hxs h0 hops m hts
      | _ => exact nxt_pure (pu_builtin hT ho hcal rfl hxs h) m hts Ext.refl
    · cases h
/-- AN OPERATION -/
theorem evOp_ok (hT : TableOk P T) (hC : CsOk P C) (h : evOp stdW T C al av o ts pb rw K = some q) (m : Mem V U0 L B A pb rw w) (hts : hL (env U0 B A pb rw w) ts a.tmps.toList) : o.wp P a w (Nxt V U0 L al B A pb rw w a K q) Q := by
  have h0 := h
  unfold evOp at h
  cases ho : o.op with
  | alloc t => exact op_alloc hT ho h0 m hts
  | box t x => exact op_box ho h0 m hts
  | load t x => exact op_load hT ho h0 m hts
  | store t x y => exact op_store hT ho h0 m hts
  | call c => exact op_call hT hC ho h0 m hts
  | buildSlice t l p => exact op_buildSlice hT ho h0 m hts
  | slice t x lo hi mx => exact op_slice hT ho h0 m hts
  | makeSlice t l c => exact op_makeSlice hT ho h0 m hts
  | index t x i => exact op_index hT ho h0 m hts
  | range t x => exact op_range hT ho h0 m hts
  | next x b => exact op_next ho h0 m hts
  | makeMap t r => exact op_makeMap hT ho h0 m hts
  | mapUpdate t x y z => exact op_mapUpdate hT ho h0 m hts
  | entry x => exact op_entry ho h0 m hts
  | lookup t x y c => exact op_lookup hT ho h0 m hts
  | convert s d x => exact op_convert hT ho h0 m hts
  | _ => rw [ho] at h; exact nxt_pure (purE_ok hT ho hts rfl m.rowsA h) m hts Ext.refl
end
end Go.Vc

namespace Go.Vc
open Go Go.RowKit
/-- slots that are not written -/
def SameOut (wr : List Nat) (a a' : Act) : Prop := a'.tmps.size = a.tmps.size ∧ ∀ i, i ∉ wr → a'.tmps[i]? = a.tmps[i]?
theorem SameOut.refl (wr : List Nat) (a : Act) : SameOut wr a a := ⟨rfl, fun _ _ => rfl⟩
theorem SameOut.trans {wr : List Nat} {a b c : Act} (h : SameOut wr a b) (k : SameOut wr b c) : SameOut wr a c := ⟨k.1.trans h.1, fun i hi => (k.2 i hi).trans (h.2 i hi)⟩
theorem SameOut.mono {wr wr' : List Nat} {a b : Act} (h : SameOut wr a b) (hs : ∀ i ∈ wr, i ∈ wr') : SameOut wr' a b := ⟨h.1, fun i hi => h.2 i fun hm => hi (hs i hm)⟩

theorem SameOut.put (a : Act) (o : Oper) (v : Value) : SameOut (dstL o) a (a.put o.dst v) := by
  unfold dstL
  cases o.dst with
  | none => exact SameOut.refl _ _
  | some d => exact ⟨by simp [Act.put], fun i hi => by simp only [List.mem_singleton] at hi; simp [Act.put, Array.getElem?_setIfInBounds_ne (Ne.symm hi)]⟩

/-- an operation writes its own slot alone -/
theorem wp_out {P : Program} {o : Oper} {a : Act} {w : World} {N : Act → World → Prop} {Q : Exit → Act → World → Prop} (hd : o.wp P a w N Q) : o.wp P a w (fun a' w' => N a' w' ∧ SameOut (dstL o) a a') Q := by
  unfold Oper.wp at *
  generalize (execOp a.eval o).run P w = r at *
  cases r with
  | ok n w' =>
    cases n <;> simp only [Oper.upon] at hd ⊢
    case value v => exact ⟨hd, SameOut.put a o v⟩
    case skip => exact ⟨hd, SameOut.put a o _⟩
    case defer d => exact ⟨hd, SameOut.put { a with defers := d :: a.defers } o undef⟩
    case enter f args =>
      refine hd.mono fun e w'' he => ?_
      cases e with
      | returned v => exact ⟨he, SameOut.put a o v⟩
      | panicked c => exact he
      | outgrown => exact he
    case row row args => exact Rows.mono hd fun v w'' he => ⟨he, SameOut.put a o v⟩
  | halt x w' =>
    cases x <;> simp only [Oper.upon] at hd ⊢
    case panic u => exact hd

theorem nthDst_eq (ops : List Oper) (j : Nat) : nthDst ops j = (ops[j]?).bind (·.dst) := by
  induction ops generalizing j with
  | nil => rfl
  | cons o ops ih => cases j <;> simp [nthDst, ih]
section
variable {P : Program} {T : List TI} {V : World} {U0 L : Nat → Prop} {al : Nat → Bool} {B : Nat → Nat} {A : Asg} {ts : List DV} {pb : DBs} {rw : List DR} {a : Act} {w : World} {β : Type} [EqB β] {q : β} {o : Oper} {K : DK β} {Q : Exit → Act → World → Prop} {C : ESs} {av : List (Nat × Nat)}
theorem nilq_ok {op : BinOp} {t ty e2 : TypeId} {x y : Operand} {e neg : Bool} {ti : TI} {aa : Option Addr} {n c : Nat} (ho : o.op = .binOp op t x y ty) (hf : TFacts P t ti) (htd : ti.td = .slice e2) (ev : a.eval x = .slice aa n c) (hy : a.eval y = .slice none 0 0)
    (hne : e = false → aa.isNone = false) (hop : op = (if neg then BinOp.neq else BinOp.eql)) (h : (stdW.nilq e fun g => retE o.dst (.bool (notIf neg g)) ts pb rw K) = some q) (m : Mem V U0 L B A pb rw w) (hts : hL (env U0 B A pb rw w) ts a.tmps.toList) : o.wp P a w (Nxt V U0 L al B A pb rw w a K q) Q := by
  have hrun := run_eq_slc (P := P) neg x y aa n c w (td_slice hf htd)
  have hg : retE o.dst (.bool (notIf neg aa.isNone)) ts pb rw K = some q := by
    change nilF e (fun g => retE o.dst (.bool (notIf neg g)) ts pb rw K) = some q at h
    unfold nilF at h
    rcases bif_s h with ⟨_, h⟩ | ⟨he, h⟩
    · have := both_s h
      cases aa.isNone
      · exact this.2
      · exact this.1
    · rw [hne he]; exact h
  refine wp_of_value (v := .bool (notIf neg aa.isNone)) ?_ (Nxt.ret hg m hts (by simp only [DV.h]) Ext.refl)
  simp only [execOp, ho, ev, hy, hop]
  rw [Sem.run_bind, hrun]; simp
theorem evOpN_ok (hT : TableOk P T) (hC : CsOk P C) (h : evOpN stdW T C al av o ts pb rw K = some q) (m : Mem V U0 L B A pb rw w) (hts : hL (env U0 B A pb rw w) ts a.tmps.toList) : o.wp P a w (Nxt V U0 L al B A pb rw w a K q) Q := by
  unfold evOpN at h
  split at h
  · rename_i e neg hn
    unfold nilQ at hn
    split at hn
    · rename_i op t x y ty ho
      split at hn
      · rename_i d l ht hx hy
        split at hn
        · rename_i hd0
          obtain ⟨ti, hf, htd⟩ := tdV_f hT ht
          have hx := opV_h hx hts
          have hy := opV_h hy hts
          simp only [DV.h] at hx hy
          obtain ⟨aa, c, ev, _, _, hel⟩ := hx
          simp only [List.cons.injEq, and_true] at ev
          have key := fun neg hop h => nilq_ok (P := P) (B := B) (A := A) (V := V) (U0 := U0) (L := L) (al := al) (Q := Q) (ts := ts) (pb := pb) (rw := rw) (w := w) (K := K) (q := q) (e := l.isEmpty) (neg := neg) (op := op) ho hf htd ev hy (fun he => by
            cases l with
            | nil => simp at he
            | cons z l =>
              obtain ⟨us, h1, h2⟩ := hel 0 z rfl
              have hd : 0 < d.size := Nat.le_of_ble_eq_true hd0
              have hul := d.h_len h1
              obtain ⟨ad, rfl, _⟩ := h2 0 _ (List.getElem?_eq_getElem (by omega))
              rfl) hop h m hts
          split at hn
          · simp only [Option.some.injEq, Prod.mk.injEq] at hn; obtain ⟨rfl, rfl⟩ := hn; exact key false rfl h
          · simp only [Option.some.injEq, Prod.mk.injEq] at hn; obtain ⟨rfl, rfl⟩ := hn; exact key true rfl h
          · cases hn
        · cases hn
      · rename_i j ht hx hy
        split at hn
        · rename_i e' t' l hrj
          rw [drV_spec] at hrj
          obtain ⟨ti, hf, htd⟩ := tdV_f hT ht
          have hx := opV_h hx hts
          have hy := opV_h hy hts
          simp only [DV.h] at hx hy
          obtain ⟨e3, t3, l3, hj3, ev⟩ := hx
          have hj3 : rw[j]? = some (.own e3 t3 l3) := hj3
          rw [hrj] at hj3; simp only [Option.some.injEq, DR.own.injEq] at hj3
          obtain ⟨rfl, rfl, hl3⟩ := hj3
          cases hl3
          have key := fun neg hop h => nilq_ok (P := P) (B := B) (A := A) (V := V) (U0 := U0) (L := L) (al := al) (Q := Q) (ts := ts) (pb := pb) (rw := rw) (w := w) (K := K) (q := q) (e := l.isEmpty) (neg := neg) (op := op) ho hf htd ev hy (fun he => by
            cases hA : ((env U0 B A pb rw w).A j).1 with
            | some ad => rfl
            | none =>
              have := m.rowsA j e' t' l hrj hA
              cases l with
              | nil => simp at he
              | cons z l => simp at this) hop h m hts
          split at hn
          · simp only [Option.some.injEq, Prod.mk.injEq] at hn; obtain ⟨rfl, rfl⟩ := hn; exact key false rfl h
          · simp only [Option.some.injEq, Prod.mk.injEq] at hn; obtain ⟨rfl, rfl⟩ := hn; exact key true rfl h
          · cases hn
        · cases hn
      · cases hn
    · cases hn
  · split at h
    · rename_i j ks dn hp; exact op_pick hp h m hts
    · exact evOp_ok hT hC h m hts
theorem evOpT_ok {rest : List Oper} (hT : TableOk P T) (hC : CsOk P C) (h : evOpT stdW T C al av o rest ts pb rw K = some q) (m : Mem V U0 L B A pb rw w) (hts : hL (env U0 B A pb rw w) ts a.tmps.toList) : o.wp P a w (Nxt V U0 L al B A pb rw w a K q) Q := by
  unfold evOpT at h
  split at h
  · rename_i j i n htq
    unfold tailQ at htq
    split at htq
    · split at htq
      · rename_i t x lo ho
        split at htq
        · rename_i e jj k ii ht hx hlo
          split at htq
          · rename_i te e2 t' l hte hj
            rw [drV_spec] at hj
            split at htq
            · rename_i hsz
              simp only [Option.some.injEq, Prod.mk.injEq] at htq
              obtain ⟨rfl, rfl, rfl⟩ := htq
              have hsz := Nat.eq_of_beq_eq_true hsz
              obtain ⟨b1, b2, h⟩ := bnd_s h
              obtain ⟨ti, hf, htd⟩ := tdV_f hT ht
              have hun := td_slice hf htd
              have hfe := tiV_f hT hte
              have hx := opV_h hx hts
              have hlo := opV_h hlo hts
              simp only [DV.h] at hx hlo
              obtain ⟨e3, t3, l3, hj3, ev⟩ := hx
              have hj3' : rw[jj]? = some (.own e3 t3 l3) := hj3
              rw [hj] at hj3'; simp only [Option.some.injEq, DR.own.injEq] at hj3'
              obtain ⟨rfl, rfl, hl3⟩ := hj3'
              cases hl3
              change a.eval x = Value.slice (A jj).1 l.length (A jj).2 at ev
              refine wp_of_value (v := .slice (if (A jj).2 = ii.toNat then (A jj).1 else (A jj).1.map (·.add (ii.toNat * t'.size))) (l.length - ii.toNat) ((A jj).2 - ii.toNat)) ?_ (Nxt.ret h m hts ?_ Ext.refl)
              · have hr : (execOp a.eval o).run P w = ((Instr.sliceAt t (a.eval x) (some (a.eval lo)) none none).run P w).andThen fun v w' => .ok (.value v) w' := by
                  simp only [execOp, ho, Sem.run_bind, Sem.run_pure, Option.map_some, Option.map_none]
                rw [hr, ev, hlo]
                simp only [Instr.sliceAt, Instr.slice, Sem.run_bind, run_underlying hun, Result.andThen_ok, Instr.sliceBounds, Sem.run_pure, Option.isSome_none, Bool.false_eq_true, if_false, run_sliceBound w k ii _ .sliceB b1 b2, td_size hfe, hsz]
              · simp only [DV.h]
                exact ⟨_, _, _, hj3, by omega, rfl⟩
            · cases htq
          · cases htq
        · cases htq
      · cases htq
    · cases htq
  · exact evOpN_ok hT hC h m hts
omit [EqB β] in
theorem guardD_ok {ops : Array Oper} {E : Env} {j : Nat} {want : Bool} {yes no : List DV → Option β} (h : guardD stdW ops.toList ts j want yes no = some q) (hts : hL E ts a.tmps.toList) :
    ∃ ts', hL E ts' a.tmps.toList ∧ ((yielded ops a.tmps j = some want ∧ yes ts' = some q) ∨ (yielded ops a.tmps j ≠ some want ∧ no ts' = some q)) := by
  unfold guardD at h
  rw [nthDst_eq] at h
  have hy : ∀ d, (ops[j]?).bind (·.dst) = some d → yielded ops a.tmps j = match a.tmps[d]? with | some (.bool b) => some b | _ => none := by
    intro d hd; unfold yielded; rw [hd]; rfl
  split at h
  · cases h
  · rename_i d hd
    have hy := hy d (by simpa using hd)
    have get : ∀ (c : Bool), ((a.tmps.toList[d]?).getD undef) = .bool c → yielded ops a.tmps j = some c ∧ a.tmps.toList.set d (.bool c) = a.tmps.toList := by
      intro c hc
      cases hq : a.tmps[d]? with
      | none => simp only [Array.getElem?_toList, hq] at hc; simp [undef] at hc
      | some v =>
        simp only [Array.getElem?_toList, hq, Option.getD_some] at hc; subst hc
        refine ⟨by rw [hy, hq], ?_⟩
        apply List.ext_getElem?
        intro i
        rw [List.getElem?_set]
        split
        · rename_i hdi; subst hdi
          have := (Array.getElem?_eq_some_iff.1 hq).1
          simp [this]
          exact (Array.getElem?_eq_some_iff.1 hq).2.symm
        · rfl
    have keep : ∀ (c : Bool), ((a.tmps.toList[d]?).getD undef) = .bool c → hL E (ts.set d (.lit c)) a.tmps.toList := by
      intro c hc
      have := hL_set hts d (p := .lit c) (v := .bool c) (by simp only [DV.h])
      rwa [(get c hc).2] at this
    split at h
    · rename_i hg
      have hv := gtV_h hg hts
      simp only [DV.h] at hv
      have hg := (get true hv).1
      cases want
      · exact ⟨ts, hts, .inr ⟨by rw [hg]; simp, h⟩⟩
      · exact ⟨ts, hts, .inl ⟨hg, h⟩⟩
    · rename_i hg
      have hv := gtV_h hg hts
      simp only [DV.h] at hv
      have hg := (get false hv).1
      cases want
      · exact ⟨ts, hts, .inl ⟨hg, h⟩⟩
      · exact ⟨ts, hts, .inr ⟨by rw [hg]; simp, h⟩⟩
    · rename_i b hg
      have hv := gtV_h hg hts
      simp only [DV.h] at hv
      have hgb := (get b hv).1
      simp only [setE_eq] at h
      rcases cnd_s h with ⟨rfl, h⟩ | ⟨rfl, h⟩
      · cases want
        · exact ⟨_, keep true hv, .inr ⟨by rw [hgb]; simp, h⟩⟩
        · exact ⟨_, keep true hv, .inl ⟨hgb, h⟩⟩
      · cases want
        · exact ⟨_, keep false hv, .inl ⟨hgb, h⟩⟩
        · exact ⟨_, keep false hv, .inr ⟨by rw [hgb]; simp, h⟩⟩
    · rename_i hg
      have hv := gtV_h hg hts
      simp only [DV.h] at hv
      refine ⟨ts, hts, .inr ⟨?_, h⟩⟩
      rw [hy]
      cases hq : a.tmps[d]? with
      | none => simp
      | some v =>
        simp only [Array.getElem?_toList, hq, Option.getD_some] at hv; subst hv; simp [undef]
    · cases h
omit [EqB β] in
theorem Nxt.mono {K' : DK β} {a' : Act} {w' : World} {q' : β} (h : Nxt V U0 L al B A pb rw w a K q a' w') (k : ∀ B' A' ts' pb' rw', Mem V U0 L B' A' pb' rw' w' → hL (env U0 B' A' pb' rw' w') ts' a'.tmps.toList → K ts' pb' rw' = some q → K' ts' pb' rw' = some q') : Nxt V U0 L al B A pb rw w a K' q' a' w' :=
  let ⟨B', A', ts', pb', rw', m, h1, h2, h3, h4⟩ := h
  ⟨B', A', ts', pb', rw', m, h1, k B' A' ts' pb' rw' m h1 h2, h3, h4⟩
theorem evList_ok (hT : TableOk P T) (hC : CsOk P C) {ops : Array Oper} : ∀ (l : List Oper) {B : Nat → Nat} {A : Asg} {ts : List DV} {pb : DBs} {rw : List DR} {a : Act} {w : World}, evList stdW T C al av ops.toList l ts pb rw K = some q → Mem V U0 L B A pb rw w → hL (env U0 B A pb rw w) ts a.tmps.toList →
    (∀ a' w', Nxt V U0 L al B A pb rw w a K q a' w' → SameOut (dsts l) a a' → Q .normal a' w') → wpList P ops Q l a w
  | [], B, A, ts, pb, rw, a, w, h, m, hts, hQ => wpList_nil (hQ a w ⟨B, A, ts, pb, rw, m, hts, h, rfl, Ext.refl⟩ (SameOut.refl _ _))
  | o :: rest, B, A, ts, pb, rw, a, w, h, m, hts, hQ => by
    have go : ∀ {K1 : DK β}, (∀ ts pb rw, K1 ts pb rw = some q → evList stdW T C al av ops.toList rest ts pb rw K = some q) → o.wp P a w (Nxt V U0 L al B A pb rw w a K1 q) Q → o.wp P a w (wpList P ops Q rest) Q := by
      intro K1 hK1 h1
      refine Oper.wp_mono (fun a' w' hn => ?_) (wp_out h1)
      obtain ⟨⟨B', A', ts', pb', rw', m', h2, h3, h4, e⟩, hso⟩ := hn
      refine evList_ok hT hC rest (hK1 _ _ _ h3) m' h2 fun a'' w'' hn' hso' => hQ a'' w'' (Nxt.more e h4 hn') ?_
      exact (hso.mono (by intro i hi; simp [dsts, hi])).trans (hso'.mono (by intro i hi; simp [dsts, hi]))
    unfold evList at h
    split at h
    · rename_i hg
      unfold wpList
      rw [if_pos (by simp [Region.wanted, hg])]
      exact .inl (go (fun _ _ _ h => h) (evOpT_ok hT hC h m hts))
    · rename_i j want hg
      obtain ⟨ts', hr, hc⟩ := guardD_ok h hts
      unfold wpList
      have hw : Region.wanted o (yielded ops a.tmps) = (yielded ops a.tmps j == some want) := by simp [Region.wanted, hg]
      rcases hc with ⟨hy, hc⟩ | ⟨hy, hc⟩
      · rw [if_pos (by rw [hw, hy]; simp)]
        exact .inl (go (fun _ _ _ h => h) (evOpN_ok hT hC hc m hr))
      · rw [if_neg (by rw [hw]; simpa using hy)]
        obtain ⟨ts'', h1, h2, h3⟩ := retE_s hc hr (x := .und) (v := undef) (by simp only [DV.h])
        refine evList_ok hT hC rest h1 m h2 fun a'' w'' hn' hso' => hQ a'' w'' (Nxt.more Ext.refl h3 hn') ?_
        exact ((SameOut.put a o undef).mono (by intro i hi; simp [dsts, hi])).trans (hso'.mono (by intro i hi; simp [dsts, hi]))
end
end Go.Vc

namespace Go.Vc
open Go Go.RowKit
/-! ### A load that everything that writes waits for may be taken first -/
def Still {α : Type} : Sem α → Prop
  | .pure _ => True
  | .load _ _ k => ∀ v, Still (k v)
  | .program k => ∀ p, Still (k p)
  | .halt _ => True
  | _ => False
theorem Still.run {α : Type} {P : Program} : ∀ {s : Sem α}, Still s → ∀ {w w' : World} {r : α}, s.run P w = .ok r w' → w' = w
  | .pure a, _, w, w', r, h => by
    simp only [Sem.run, Result.ok.injEq] at h; exact h.2.symm
  | .load m a k, hs, w, w', r, h => by
    simp only [Sem.run] at h
    split at h
    · exact Still.run (hs _) h
    · split at h
      · exact Still.run (hs _) h
      · cases h
  | .program k, hs, w, w', r, h => by
    simp only [Sem.run] at h; exact Still.run (hs _) h
  | .halt x, _, w, w', r, h => by simp only [Sem.run] at h; cases h
  | .store _ _ _ _, hs, _, _, _, _ => hs.elim
  | .new _ _, hs, _, _, _, _ => hs.elim
  | .shape _ _, hs, _, _, _, _ => hs.elim
  | .freeze _ _ _, hs, _, _, _, _ => hs.elim
  | .frozen _ _, hs, _, _, _, _ => hs.elim
  | .getObj _ _, hs, _, _, _, _ => hs.elim
  | .setObj _ _ _, hs, _, _, _, _ => hs.elim
  | .choose _ _, hs, _, _, _, _ => hs.elim
  | .sys _ _, hs, _, _, _, _ => hs.elim
  | .mark _ _, hs, _, _, _, _ => hs.elim
theorem Still.bind {α β : Type} {f : α → Sem β} (hf : ∀ a, Still (f a)) : ∀ {s : Sem α}, Still s → Still (s >>= f)
  | .pure a, _ => hf a
  | .load m a k, hs => fun v => Still.bind hf (hs v)
  | .program k, hs => fun v => Still.bind hf (hs v)
  | .halt x, _ => trivial
  | .store _ _ _ _, hs => hs.elim
  | .new _ _, hs => hs.elim
  | .shape _ _, hs => hs.elim
  | .freeze _ _ _, hs => hs.elim
  | .frozen _ _, hs => hs.elim
  | .getObj _ _, hs => hs.elim
  | .setObj _ _ _, hs => hs.elim
  | .choose _ _, hs => hs.elim
  | .sys _ _, hs => hs.elim
  | .mark _ _, hs => hs.elim
end Go.Vc
namespace Go.Vc
open Go Go.RowKit
theorem still_pure {α : Type} (a : α) : Still (pure a : Sem α) := trivial
theorem still_program : Still program := fun _ => trivial
theorem still_load (a : Addr) : Still (load a) := fun _ => trivial
theorem still_loadCells (a : Addr) : ∀ (n i : Nat) (acc : Array Value), Still (loadCellsFrom a i n acc)
  | 0, _, _ => trivial
  | n + 1, i, acc => Still.bind (fun v => still_loadCells a n (i + 1) (acc.push v)) (still_load _)
theorem still_underlying (t : TypeId) : Still (underlying t) := Still.bind (fun p => by cases p.underlying t <;> trivial) still_program
theorem still_sizeOf (t : TypeId) : Still (Go.sizeOf t) := Still.bind (fun _ => still_pure _) (Still.bind (fun p => by cases p.info? t <;> trivial) still_program)
theorem still_isAgg (t : TypeId) : Still (Go.isAgg t) := Still.bind (fun d => by cases d <;> trivial) (still_underlying t)
theorem still_loadVar (t : TypeId) (a : Addr) : Still (loadVar t a) := by
  refine Still.bind (fun b => ?_) (still_isAgg t)
  cases b with
  | false => exact still_load a
  | true =>
    rw [if_pos rfl]
    exact Still.bind (fun n => Still.bind (fun cs => still_pure _) (still_loadCells a n 0 #[])) (still_sizeOf t)
theorem still_loadAt (t : TypeId) (x : Value) : Still (Instr.loadAt t x) := by
  refine Still.bind (fun a => still_loadVar t a) ?_
  unfold Instr.sureAddr
  split <;> trivial
section
variable {P : Program} {ops : Array Oper} {Q : Exit → Act → World → Prop} {S : World → Prop}
theorem wpOp_load {j : Nat} {oj : Oper} (hj : ops[j]? = some oj) (hl : isLoad oj = true) {K : Act → World → Prop} {a : Act} {w : World} (h : wpOp P ops Q j K a w) : wpOp P ops Q j (fun a' w' => w' = w ∧ K a' w') a w := by
  unfold isLoad at hl
  split at hl
  · rename_i t x ho
    unfold Go.wpOp at *
    simp only [hj] at *
    split
    · rename_i hw
      simp only [hw, if_true] at h
      rcases h with h2 | h2
      case inr => exact .inr h2
      refine .inl ?_
      unfold Oper.wp at h2 ⊢
      have e : ∀ n w', (execOp a.eval oj).run P w = .ok n w' → w' = w ∧ ∃ v, n = .value v := fun n w' hr => by
        unfold execOp at hr
        simp only [ho, Sem.run_bind] at hr
        cases hq : (Instr.loadAt t (a.eval x)).run P w with
        | ok v w2 =>
          rw [hq] at hr
          simp only [Result.andThen, Sem.run_pure, Result.ok.injEq] at hr
          exact ⟨hr.2 ▸ (still_loadAt t _).run hq, v, hr.1.symm⟩
        | halt x w2 => rw [hq] at hr; cases hr
      generalize (execOp a.eval oj).run P w = r at *
      cases r with
      | ok n w' =>
        obtain ⟨rfl, v, rfl⟩ := e n w' rfl
        exact ⟨rfl, h2⟩
      | halt x w' => cases x <;> exact h2
    · rename_i hw
      rw [if_neg hw] at h
      exact ⟨trivial, h⟩
  · cases hl
theorem wpAnyH_early {i : Nat} {oi : Oper} {v : Value} {D : List Nat} {w : World} (hi : ops[i]? = some oi) (hs : Region.noSelect ops = true) (hQ : ∀ c a w, Q (.panic c) (a.put oi.dst v) w → Q (.panic c) a w)
    (hdep : ∀ d ∈ D, depB ops D i d = true) (hS : S w) :
    ∀ (fuel : Nat) (listed : Array Bool) (a : Act), (∀ d ∈ D, listed.getD d true = false) → (∀ j oj, ops[j]? = some oj → j ∉ D → listed.getD j true = false → isLoad oj = true) →
      (∀ j oj, ops[j]? = some oj → j ≠ i → listed.getD j true = false → (∀ e ∈ oj.after, Region.binds .any e = true → e.on ≠ i) → oi.apart ops oj = true) →
      i ∈ D → i ∈ Region.ready .any ops listed → YieldsIf P ops (fun w' => w' = w) oi v a →
      wpAnyH P .any ops Q S fuel (listed.setIfInBounds i true) (a.put oi.dst v) w → wpAnyH P .any ops Q S (fuel + 1) listed a w := by
  have hsel := Region.noSelect_spec hs
  intro fuel
  induction fuel with
  | zero =>
    intro listed a _ _ _ _ hr hy H
    refine ⟨fun h => (by rw [h] at hr; cases hr), fun j hj => ?_⟩
    by_cases hji : j = i
    · subst hji; exact hy.wpOp hi rfl ⟨hS, H⟩
    · have := ready_mono hj hji
      rw [H.1] at this
      cases this
  | succ fuel ih =>
    intro listed a hun hst hfree hiD hr hy H
    refine ⟨fun h => (by rw [h] at hr; cases hr), fun j hj => ?_⟩
    by_cases hji : j = i
    · subst hji; exact hy.wpOp hi rfl ⟨hS, H⟩
    · have h1 := H.2 j (ready_mono hj hji)
      obtain ⟨hjun, oj, hoj, hall⟩ := mem_ready.1 hj
      have hoff : ∀ k ∈ D, listed.getD k false = false := fun k hk => by
        have h0 := hun k hk
        rcases Nat.lt_or_ge k listed.size with h' | h'
        · simp [h'] at h0 ⊢; exact h0
        · simp [Array.getElem?_eq_none h']
      have hjD : j ∉ D := fun hD => by
        have hd := hdep j hD
        unfold depB at hd
        split at hd
        · rename_i hb; exact hji (Nat.eq_of_beq_eq_true hb)
        · rw [hoj] at hd
          simp only [Array.any_eq_true', Bool.and_eq_true, memN_iff] at hd
          obtain ⟨e, he, hb, hon⟩ := hd
          have h2 := hall e he hb
          rw [hoff _ hon] at h2
          cases h2
      have hnot : ∀ e ∈ oj.after, Region.binds .any e = true → e.on ≠ i := fun e he hb heq => by
        have h2 := hall e he hb
        rw [heq, hoff _ hiD] at h2
        cases h2
      have h2 := wpOp_putIf hoj (hfree j oj hoj hji hjun hnot) (fun cs b => hsel i oi cs b hi) (fun cs b => hsel j oj cs b hoj) hQ hy h1
      have h3 := wpOp_load hoj (hst j oj hoj hjD hjun) h2
      have hset : ∀ k, (listed.setIfInBounds j true).getD k true = false → listed.getD k true = false := fun k hk => by
        by_cases hjk : j = k
        · subst hjk; exact hjun
        · rwa [getD_set_ne true hjk] at hk
      refine wpOp_mono (fun a' w' h4 => ?_) h3
      obtain ⟨rfl, h5, h6, h7⟩ := h4
      refine ⟨h6, ih (listed.setIfInBounds j true) a' (fun d hd => ?_) (fun k ok hk hkD hku => hst k ok hk hkD (hset k hku)) (fun k ok hk hki hku hno => hfree k ok hk hki (hset k hku) hno) hiD (ready_mono hr (Ne.symm hji)) h5 ?_⟩
      · rw [getD_set_ne (i := j) (j := d) true (fun e => hjD (e ▸ hd))]; exact hun d hd
      · rw [Array.setIfInBounds_comm _ _ hji]
        exact h7
theorem earlyT_s {L : Array Bool} {i : Nat} {D : List Nat} (h : earlyT ops L i D = true) : i ∈ D ∧ (∀ d ∈ D, L.getD d true = false) ∧ (∀ d ∈ D, depB ops D i d = true) ∧ ∀ j oj, ops[j]? = some oj → j ∉ D → L.getD j true = false → isLoad oj = true := by
  unfold earlyT at h
  simp only [Bool.and_eq_true, List.all_eq_true, List.mem_range, Bool.or_eq_true] at h
  obtain ⟨⟨⟨h1, h2⟩, h3⟩, h4⟩ := h
  refine ⟨(memN_iff _ _).1 h1, ?_, h3, fun j oj hj hD hu => ?_⟩
  · have : ∀ D : List Nat, unlB L D = true → ∀ d ∈ D, L.getD d true = false := by
      intro D
      induction D with
      | nil => intro _ d hd; cases hd
      | cons x D ih =>
        intro h d hd
        simp only [unlB, Bool.and_eq_true, Bool.not_eq_true'] at h
        rcases List.mem_cons.1 hd with rfl | hd
        · exact h.1
        · exact ih h.2 d hd
    exact this D h2
  · rcases h4 j (Array.getElem?_eq_some_iff.1 hj).1 with (h5 | h5) | h5
    · exact absurd ((memN_iff _ _).1 h5) hD
    · rw [hu] at h5; cases h5
    · rw [hj] at h5; exact h5
end
end Go.Vc

namespace Go.Vc
open Go Go.RowKit
section
variable {P : Program} {T : List TI} {V : World} {U0 L : Nat → Prop} {al : Nat → Bool} {B : Nat → Nat} {A : Asg} {ts : List DV} {pb : DBs} {rw : List DR} {a : Act} {w : World} {β : Type} [EqB β] {q : β} {o : Oper} {K : DK β} {Q : Exit → Act → World → Prop} {C : ESs} {av : List (Nat × Nat)}
/-- where code leads to -/
def Nx (V : World) (U0 L : Nat → Prop) (B : Nat → Nat) (pb : DBs) (a : Act) (K : DK β) (q : β) : Act → World → Prop := fun a' w' =>
  ∃ B' A' ts' pb' rw', Mem V U0 L B' A' pb' rw' w' ∧ hL (env U0 B' A' pb' rw' w') ts' a'.tmps.toList ∧ K ts' pb' rw' = some q ∧ a'.defers = a.defers ∧ ∀ i, live pb i → live pb' i ∧ B' i = B i
omit [EqB β] in
theorem Nxt.nx {a' : Act} {w' : World} (h : Nxt V U0 L al B A pb rw w a K q a' w') : Nx V U0 L B pb a K q a' w' :=
  let ⟨B', A', ts', pb', rw', m, h1, h2, h3, h4⟩ := h
  ⟨B', A', ts', pb', rw', m, h1, h2, h3, h4.bx⟩
/-- boxes that are not yet made -/
theorem Mem.places (m : Mem V U0 L B A pb rw w) {pb' : DBs} (h : ∀ (i : Nat) (b : DB), pb'[i]? = some (some b) ↔ pb[i]? = some (some b)) : Mem V U0 L B A pb' rw w ∧ Sub noF (env U0 B A pb rw w) (env U0 B A pb' rw w) ∧ ∀ i, live pb' i ↔ live pb i := by
  have hl : ∀ i, live pb' i ↔ live pb i := fun i => ⟨fun ⟨b, hb⟩ => ⟨b, (h i b).1 hb⟩, fun ⟨b, hb⟩ => ⟨b, (h i b).2 hb⟩⟩
  have hb : ∀ k i b, blk B A pb' rw k i b → blk B A pb rw k i b := fun k i b hh => by
    cases k with
    | true => exact hh
    | false => exact ⟨(hl i).1 hh.1, hh.2⟩
  obtain ⟨m', s, _⟩ := m.step (al := fun _ => true) noF (w' := w) (B' := B) (A' := A) (pb' := pb') (rw' := rw) ⟨rfl, rfl, rfl, Nat.le_refl _⟩ (fun _ _ _ => rfl) (fun k i b hh => .inl (hb k i b hh)) (fun k i k' i' b h1 h2 => m.inj _ _ _ _ _ (hb _ _ _ h1) (hb _ _ _ h2))
    (fun i hh => ⟨(hl i).2 hh, rfl⟩) (fun j e t l _ hh => ⟨l, hh, rfl, rfl⟩) (fun j d _ h => ⟨⟨d, h, rfl⟩, rfl⟩) (fun _ j p e t l hh => (by cases hh)) (fun _ j p d ad hh => (by cases hh)) (fun _ i b' hh => .inl ⟨b', (h i b').1 hh, rfl, by rw [subL_no], id, rfl⟩) (fun _ j e t l hh => .inl ⟨hh, rfl, fun _ _ => rfl⟩) fun _ j d hh => .inl ⟨hh, rfl, fun _ _ => rfl⟩
  exact ⟨m', s, hl⟩
omit [EqB β] in
theorem placesE_s : ∀ (os : List Oper) (pb : DBs) (n : Nat) {K : List (Nat × Nat) → DBs → Option β}, placesE os pb n K = some q → ∃ av pb', K av pb' = some q ∧ ∃ l : DBs, pb' = pb ++ l ∧ ∀ x ∈ l, x = none
  | [], pb, n, K, h => ⟨[], pb, h, [], by simp, by simp⟩
  | o :: os, pb, n, K, h => by
    have push : ∀ (K' : List (Nat × Nat) → DBs → Option β), placesE os (pb ++ [none]) (n + 1) K' = some q → (∃ av pb', K' av pb' = some q ∧ ∃ l : DBs, pb' = pb ++ l ∧ ∀ x ∈ l, x = none) := fun K' h' => by
      obtain ⟨av, pb', h1, l, h2, h3⟩ := placesE_s os _ _ h'
      exact ⟨av, pb', h1, none :: l, by rw [h2]; simp, fun x hx => (List.mem_cons.1 hx).elim id (h3 x)⟩
    simp only [placesE] at h
    split at h
    · rw [pushE_eq] at h
      obtain ⟨av, pb', h1, h2⟩ := push _ h
      rw [litE_eq] at h1
      exact ⟨_, pb', h1, h2⟩
    · rw [pushE_eq] at h
      obtain ⟨av, pb', h1, h2⟩ := push _ h
      rw [litE_eq] at h1
      exact ⟨_, pb', h1, h2⟩
    · exact placesE_s os pb n h
theorem nthO_s : ∀ {ops : List Oper} {i : Nat}, nthO ops i = ops[i]?
  | [], i => by simp [nthO]
  | o :: os, 0 => rfl
  | o :: os, i + 1 => by simp only [nthO, List.getElem?_cons_succ]; exact nthO_s
theorem dstL_mem : ∀ {ops : List Oper} {i : Nat} {o : Oper}, ops[i]? = some o → ∀ d ∈ dstL o, d ∈ dsts ops
  | [], i, o, h => by simp at h
  | p :: ops, i, o, h => by
    intro d hd
    simp only [dsts, List.mem_append]
    cases i with
    | zero => simp at h; subst h; exact .inl hd
    | succ i => exact .inr (dstL_mem (by simpa using h) d hd)
end
section
variable {P : Program} {T : List TI} {V : World} {U0 L : Nat → Prop} {al : Nat → Bool} {β : Type} [EqB β] {q : β} {K : DK β} {C : ESs} {av : List (Nat × Nat)} {ops : Array Oper} {Ia : List Nat} {sn : Nat → Bool}
  {B0 : Nat → Nat} {A0 : Asg} {pb0 : DBs} {rw0 : List DR} {a0 : Act} {w0 : World}
def QD (V : World) (U0 L : Nat → Prop) (al : Nat → Bool) (B0 : Nat → Nat) (A0 : Asg) (pb0 : DBs) (rw0 : List DR) (w0 : World) (a0 : Act) (K : DK β) (q : β) (ops : Array Oper) : Exit → Act → World → Prop := fun e a' w' => match e with
  | .normal => Nxt V U0 L al B0 A0 pb0 rw0 w0 a0 K q a' w' ∧ SameOut (dsts ops.toList) a0 a'
  | _ => False
/-- what lies still as long as the region goes on -/
def SD (al : Nat → Bool) (B0 : Nat → Nat) (A0 : Asg) (pb0 : DBs) (rw0 : List DR) (w0 : World) : World → Prop := fun w' => ∀ b, b < w0.heap.size → ¬ Wr al B0 A0 pb0 rw0 b → w'.heap[b]? = w0.heap[b]?
structure At0 (al : Nat → Bool) (ops : Array Oper) (B0 : Nat → Nat) (A0 : Asg) (pb0 : DBs) (rw0 : List DR) (w0 : World) (a0 : Act) (ph : Bool) (B : Nat → Nat) (A : Asg) (pb : DBs) (rw : List DR) (w : World) (a : Act) : Prop where
  ext : Ext al B0 A0 pb0 rw0 w0 B A pb rw w
  out : SameOut (dsts ops.toList) a0 a
  df : a.defers = a0.defers
  ph0 : ph = false → B = B0 ∧ A = A0 ∧ pb = pb0 ∧ rw = rw0 ∧ w = w0
omit [EqB β] in
theorem rdE_ok (hT : TableOk P T) (hal : ∀ i, live pb0 i → memN i Ia = false → al i = false) (hsn : ∀ i, sn i = true → live pb0 i ∧ al i = false) {ph : Bool} {B : Nat → Nat} {A : Asg} {ts : List DV} {pb : DBs} {rw : List DR} {a : Act} {w : World} {o : Oper} {ret : DV → Option β}
    (h : rdE stdW T Ia sn ph o ts pb rw ret = some q) (m0 : Mem V U0 L B0 A0 pb0 rw0 w0) (m : Mem V U0 L B A pb rw w) (hts : hL (env U0 B A pb rw w) ts a.tmps.toList) (s : At0 al ops B0 A0 pb0 rw0 w0 a0 ph B A pb rw w a) :
    ∃ r v, ret r = some q ∧ r.h (env U0 B A pb rw w) v ∧ ∀ w', SD al B0 A0 pb0 rw0 w0 w' → (execOp a.eval o).run P w' = .ok (.value v) w' := by
  have still : ∀ b, b < w0.heap.size → ¬ Wr al B0 A0 pb0 rw0 b → ∀ w', SD al B0 A0 pb0 rw0 w0 w' → w'.heap[b]? = w.heap[b]? := fun b hb hn w' hs => by rw [hs b hb hn, s.ext.fr b hb hn]
  have own : ∀ i, live pb0 i → al i = false → B i < w0.heap.size ∧ ¬ Wr al B0 A0 pb0 rw0 (B i) := fun i hl ha => by
    have hb := (s.ext.bx i hl).2
    have hbl : blk B0 A0 pb0 rw0 false i (B i) := ⟨hl, hb.symm⟩
    refine ⟨(m0.low _ _ _ hbl).1, ?_⟩
    rintro (⟨i', h1, h2⟩ | ⟨j, h2⟩)
    · have := (m0.inj _ _ _ _ _ hbl h2).2; subst this; rw [ha] at h1; cases h1
    · have := (m0.inj _ _ _ _ _ hbl h2).1; cases this
  unfold rdE at h
  split at h
  · rename_i t x ho
    have fin : ∀ (p : DV), opV ts x = some p → loadE stdW T t p pb rw ret = some q → (∀ ad : Addr, a.eval x = .pointer (some ad) → ((∃ i off, p = .own i off ∧ blk B A pb rw false i ad.block) ∨ (∃ t x off, p = .el t x off ∧ ¬ Us U0 B A pb rw ad.block ∧ ad.block < w.heap.size) ∨ (∃ j i off, p = .re j i off) ∨ ∃ l k, p = .fp l k) → ad.block < w0.heap.size ∧ ¬ Wr al B0 A0 pb0 rw0 ad.block) →
        ∃ r v, ret r = some q ∧ r.h (env U0 B A pb rw w) v ∧ ∀ w', SD al B0 A0 pb0 rw0 w0 w' → (execOp a.eval o).run P w' = .ok (.value v) w' := by
      intro p hp hl hbk
      obtain ⟨r, u, ad, hv, h1, h2, h3, h4⟩ := loadE_ok hT m hl (opV_h hp hts)
      obtain ⟨g1, g2⟩ := hbk ad hv h4
      exact ⟨r, u, h1, h2, fun w' hs => by rw [load_run ho, h3 w' (still _ g1 g2 w' hs)]; rfl⟩
    split at h
    · obtain ⟨p, hp, h⟩ := o1_s h
      split at h
      · rename_i haw
        obtain ⟨rfl, rfl, rfl, rfl, rfl⟩ := s.ph0 rfl
        refine fin p hp h fun ad hv hc => ?_
        rcases hc with ⟨i, off, rfl, hbl⟩ | ⟨t', x', off, rfl, hn, hlt⟩ | ⟨j, i, off, rfl⟩ | ⟨l, k, rfl⟩
        · have hi : memN i Ia = false := by
            simp only [awayV] at haw
            split at haw
            · assumption
            · cases haw
          have := own i hbl.1 (hal i hbl.1 hi)
          rw [hbl.2] at this; exact this
        · refine ⟨hlt, ?_⟩
          rintro (⟨i, _, hb⟩ | ⟨j, hb⟩)
          · exact hn (.inr ⟨_, i, hb⟩)
          · exact hn (.inr ⟨_, j, hb⟩)
        · simp [awayV] at haw
        · simp [awayV] at haw
      · cases h
    · obtain ⟨p, hp, h⟩ := o1_s h
      split at h
      · rename_i hse
        refine fin p hp h fun ad hv hc => ?_
        rcases hc with ⟨i, off, rfl, hbl⟩ | ⟨t', x', off, rfl, hn, _⟩ | ⟨j, i, off, rfl⟩ | ⟨l, k, rfl⟩
        · obtain ⟨g1, g2⟩ := hsn i hse
          have := own i g1 g2
          rw [hbl.2] at this; exact this
        · simp [seenV] at hse
        · simp [seenV] at hse
        · simp [seenV] at hse
      · cases h
  · obtain ⟨r, v, h1, h2, h3⟩ := purE_ok hT rfl hts rfl m.rowsA h
    exact ⟨r, v, h1, h2, fun w' _ => h3 w'⟩
theorem stepD_ok (hT : TableOk P T) (hC : CsOk P C) {i n : Nat} {ph : Bool} {Lk : Array Bool} {B : Nat → Nat} {A : Asg} {ts : List DV} {pb : DBs} {rw : List DR} {a : Act} {w : World} {o : Oper} {k : DK β} (hi : ops[i]? = some o)
    (h : stepD stdW T C al av ops.toList o ts pb rw k = some q) (m : Mem V U0 L B A pb rw w) (hts : hL (env U0 B A pb rw w) ts a.tmps.toList) (s : At0 al ops B0 A0 pb0 rw0 w0 a0 ph B A pb rw w a)
    (hk : ∀ B A ts pb rw a w, k ts pb rw = some q → Mem V U0 L B A pb rw w → hL (env U0 B A pb rw w) ts a.tmps.toList → At0 al ops B0 A0 pb0 rw0 w0 a0 true B A pb rw w a → wpAnyH P .any ops (QD V U0 L al B0 A0 pb0 rw0 w0 a0 K q ops) (SD al B0 A0 pb0 rw0 w0) n (Lk.setIfInBounds i true) a w) :
    wpOp P ops (QD V U0 L al B0 A0 pb0 rw0 w0 a0 K q ops) i (fun a' w' => SD al B0 A0 pb0 rw0 w0 w' ∧ wpAnyH P .any ops (QD V U0 L al B0 A0 pb0 rw0 w0 a0 K q ops) (SD al B0 A0 pb0 rw0 w0) n (Lk.setIfInBounds i true) a' w') a w := by
  have hmem := dstL_mem (ops := ops.toList) (i := i) (o := o) (by simpa using hi)
  have go : ∀ ts, hL (env U0 B A pb rw w) ts a.tmps.toList → Region.wanted o (yielded ops a.tmps) = true → evOpN stdW T C al av o ts pb rw k = some q →
      wpOp P ops (QD V U0 L al B0 A0 pb0 rw0 w0 a0 K q ops) i (fun a' w' => SD al B0 A0 pb0 rw0 w0 w' ∧ wpAnyH P .any ops (QD V U0 L al B0 A0 pb0 rw0 w0 a0 K q ops) (SD al B0 A0 pb0 rw0 w0) n (Lk.setIfInBounds i true) a' w') a w := by
    intro ts hts hwt h
    unfold Go.wpOp
    simp only [hi, hwt, if_true]
    refine .inl (Oper.wp_mono (fun a' w' hn => ?_) (wp_out (evOpN_ok (al := al) hT hC h m hts)))
    obtain ⟨⟨B', A', ts', pb', rw', m', h1, h2, h3, e⟩, hso⟩ := hn
    have e' := s.ext.trans e
    exact ⟨fun b hb hnb => e'.fr b hb hnb, hk B' A' ts' pb' rw' a' w' h2 m' h1 ⟨e', s.out.trans (hso.mono hmem), h3.trans s.df, fun h => by cases h⟩⟩
  have skip : ∀ ts, hL (env U0 B A pb rw w) ts a.tmps.toList → Region.wanted o (yielded ops a.tmps) = false → retE o.dst .und ts pb rw k = some q →
      wpOp P ops (QD V U0 L al B0 A0 pb0 rw0 w0 a0 K q ops) i (fun a' w' => SD al B0 A0 pb0 rw0 w0 w' ∧ wpAnyH P .any ops (QD V U0 L al B0 A0 pb0 rw0 w0 a0 K q ops) (SD al B0 A0 pb0 rw0 w0) n (Lk.setIfInBounds i true) a' w') a w := by
    intro ts hts hwt h
    obtain ⟨ts', h1, h2, h3⟩ := retE_s h hts (x := .und) (v := undef) (by simp only [DV.h])
    unfold Go.wpOp
    simp only [hi, hwt, Bool.false_eq_true, if_false]
    exact ⟨fun b hb hnb => s.ext.fr b hb hnb, hk B A ts' pb rw _ w h1 m h2 ⟨s.ext, s.out.trans ((SameOut.put a o undef).mono hmem), h3.trans s.df, fun h => by cases h⟩⟩
  unfold stepD at h
  split at h
  · rename_i hg
    exact go ts hts (by simp [Region.wanted, hg]) h
  · rename_i j want hg
    obtain ⟨ts', hr, hc⟩ := guardD_ok h hts
    have hw : Region.wanted o (yielded ops a.tmps) = (yielded ops a.tmps j == some want) := by simp [Region.wanted, hg]
    rcases hc with ⟨hy, hc⟩ | ⟨hy, hc⟩
    · exact go ts' hr (by rw [hw, hy]; simp) hc
    · exact skip ts' hr (by rw [hw]; simpa using hy) hc
theorem evT_ok (hT : TableOk P T) (hC : CsOk P C) (hns : Region.noSelect ops = true) (hal : ∀ i, live pb0 i → memN i Ia = false → al i = false) (hsn : ∀ i, sn i = true → live pb0 i ∧ al i = false) (m0 : Mem V U0 L B0 A0 pb0 rw0 w0) :
    ∀ (t : OT) (n : Nat) (Lk : Array Bool) (ph : Bool) (B : Nat → Nat) (A : Asg) (ts : List DV) (pb : DBs) (rw : List DR) (a : Act) (w : World), okT ops n t Lk = true → evT stdW T C al av Ia sn ops.toList ph t ts pb rw K = some q → Mem V U0 L B A pb rw w → hL (env U0 B A pb rw w) ts a.tmps.toList →
      At0 al ops B0 A0 pb0 rw0 w0 a0 ph B A pb rw w a → wpAnyH P .any ops (QD V U0 L al B0 A0 pb0 rw0 w0 a0 K q ops) (SD al B0 A0 pb0 rw0 w0) n Lk a w
  | .nil, n, Lk, ph, B, A, ts, pb, rw, a, w, hok, h, m, hts, s => by
    have hok : (Region.ready .any ops Lk).isEmpty = true := by cases n <;> simpa [okT] using hok
    simp only [List.isEmpty_iff] at hok
    simp only [evT] at h
    exact wpAnyH_done hok ⟨⟨B, A, ts, pb, rw, m, hts, h, s.df, s.ext⟩, s.out⟩ _
  | .rd i t, 0, Lk, ph, B, A, ts, pb, rw, a, w, hok, h, m, hts, s => by simp [okT] at hok
  | .er i D t, 0, Lk, ph, B, A, ts, pb, rw, a, w, hok, h, m, hts, s => by simp [okT] at hok
  | .op i t, 0, Lk, ph, B, A, ts, pb, rw, a, w, hok, h, m, hts, s => by simp [okT] at hok
  | .two i j ti tj, 0, Lk, ph, B, A, ts, pb, rw, a, w, hok, h, m, hts, s => by simp [okT] at hok
  | .three i j k ti tj tk, 0, Lk, ph, B, A, ts, pb, rw, a, w, hok, h, m, hts, s => by simp [okT] at hok
  | .four i j k l ti tj tk tl, 0, Lk, ph, B, A, ts, pb, rw, a, w, hok, h, m, hts, s => by simp [okT] at hok
  | .rd i t, n + 1, Lk, ph, B, A, ts, pb, rw, a, w, hok, h, m, hts, s => by
    simp only [okT, Bool.and_eq_true] at hok
    simp only [evT] at h
    split at h
    · rename_i o hi
      rw [nthO_s] at hi
      have hi : ops[i]? = some o := by simpa using hi
      have hmem := dstL_mem (ops := ops.toList) (i := i) (o := o) (by simpa using hi)
      have hS : SD al B0 A0 pb0 rw0 w0 w := fun b hb hnb => s.ext.fr b hb hnb
      have go : ∀ ts, hL (env U0 B A pb rw w) ts a.tmps.toList → Region.wanted o (yielded ops a.tmps) = true → (rdE stdW T Ia sn ph o ts pb rw fun x => retE o.dst x ts pb rw fun ts pb rw => evT stdW T C al av Ia sn ops.toList ph t ts pb rw K) = some q → wpAnyH P .any ops (QD V U0 L al B0 A0 pb0 rw0 w0 a0 K q ops) (SD al B0 A0 pb0 rw0 w0) (n + 1) Lk a w := by
        intro ts hts hwt h
        obtain ⟨r, v, h1, h2, h3⟩ := rdE_ok hT hal hsn h m0 m hts s
        obtain ⟨ts', g1, g2, g3⟩ := retE_s h1 hts h2
        refine wpAnyH_take hi hns hok.1.1 hok.1.2 (fun c a w hq => hq) (.inl ⟨hwt, fun w' hs => h3 w' hs⟩) hS ?_
        exact evT_ok hT hC hns hal hsn m0 t n _ ph B A ts' pb rw _ w hok.2 g1 m g2 ⟨s.ext, s.out.trans ((SameOut.put a o v).mono hmem), g3.trans s.df, s.ph0⟩
      have skip : ∀ ts, hL (env U0 B A pb rw w) ts a.tmps.toList → Region.wanted o (yielded ops a.tmps) = false → (retE o.dst .und ts pb rw fun ts pb rw => evT stdW T C al av Ia sn ops.toList ph t ts pb rw K) = some q → wpAnyH P .any ops (QD V U0 L al B0 A0 pb0 rw0 w0 a0 K q ops) (SD al B0 A0 pb0 rw0 w0) (n + 1) Lk a w := by
        intro ts hts hwt h
        obtain ⟨ts', g1, g2, g3⟩ := retE_s h hts (x := .und) (v := undef) (by simp only [DV.h])
        exact wpAnyH_take hi hns hok.1.1 hok.1.2 (fun c a w hq => hq) (.inr ⟨hwt, rfl⟩) hS (evT_ok hT hC hns hal hsn m0 t n _ ph B A ts' pb rw _ w hok.2 g1 m g2 ⟨s.ext, s.out.trans ((SameOut.put a o undef).mono hmem), g3.trans s.df, s.ph0⟩)
      split at h
      · rename_i hg
        exact go ts hts (by simp [Region.wanted, hg]) h
      · rename_i j want hg
        obtain ⟨ts', hr, hc⟩ := guardD_ok h hts
        have hw : Region.wanted o (yielded ops a.tmps) = (yielded ops a.tmps j == some want) := by simp [Region.wanted, hg]
        rcases hc with ⟨hy, hc⟩ | ⟨hy, hc⟩
        · exact go ts' hr (by rw [hw, hy]; simp) hc
        · exact skip ts' hr (by rw [hw]; simpa using hy) hc
    · cases h
  | .er i D t, n + 1, Lk, ph, B, A, ts, pb, rw, a, w, hok, h, m, hts, s => by
    simp only [okT, Bool.and_eq_true] at hok
    simp only [evT] at h
    split at h
    · rename_i o hi
      rw [nthO_s] at hi
      have hi : ops[i]? = some o := by simpa using hi
      have hmem := dstL_mem (ops := ops.toList) (i := i) (o := o) (by simpa using hi)
      have hS : SD al B0 A0 pb0 rw0 w0 w := fun b hb hnb => s.ext.fr b hb hnb
      split at h
      · rename_i ty x hg ho
        obtain ⟨p, hp, h⟩ := o1_s h
        obtain ⟨r, u, ad, hv, h1, h2, h3, _⟩ := loadE_ok hT m h (opV_h hp hts)
        obtain ⟨ts', g1, g2, g3⟩ := retE_s h1 hts h2
        obtain ⟨e1, e2, e3, e4⟩ := earlyT_s hok.1.2
        refine wpAnyH_early hi hns (fun c a w hq => hq) e3 hS n Lk a e2 e4 (Region.free_spec hi hok.1.1.1) e1 (by simpa using hok.1.1.2) (v := u) (.inl ⟨by simp [Region.wanted, hg], fun w' hw => by
          rw [hw, load_run ho, h3 w rfl]; rfl⟩) ?_
        exact evT_ok hT hC hns hal hsn m0 t n _ false B A ts' pb rw _ w hok.2 g1 m g2 ⟨s.ext, s.out.trans ((SameOut.put a o u).mono hmem), g3.trans s.df, s.ph0⟩
      · cases h
    · cases h
  | .op i t, n + 1, Lk, ph, B, A, ts, pb, rw, a, w, hok, h, m, hts, s => by
    simp only [okT, Bool.and_eq_true, beq_iff_eq] at hok
    simp only [evT] at h
    split at h
    · rename_i o hi
      rw [nthO_s] at hi
      have hi : ops[i]? = some o := by simpa using hi
      refine wpAnyH_all hok.1 (by simp) fun j hj => ?_
      rw [List.mem_singleton.1 hj]
      exact stepD_ok hT hC hi h m hts s fun B A ts pb rw a w hk m hts s => evT_ok hT hC hns hal hsn m0 t n _ true B A ts pb rw a w hok.2 hk m hts s
    · cases h
  | .two i j ti tj, n + 1, Lk, ph, B, A, ts, pb, rw, a, w, hok, h, m, hts, s => by
    simp only [okT, Bool.and_eq_true, beq_iff_eq] at hok
    simp only [evT] at h
    split at h
    · rename_i o o' hi hj
      rw [nthO_s] at hi hj
      have hi : ops[i]? = some o := by simpa using hi
      have hj : ops[j]? = some o' := by simpa using hj
      obtain ⟨ha, hb⟩ := both_s h
      refine wpAnyH_all hok.1.1 (by simp) fun k hk => ?_
      simp only [List.mem_cons, List.not_mem_nil, or_false] at hk
      rcases hk with rfl | rfl
      · exact stepD_ok hT hC hi ha m hts s fun B A ts pb rw a w hk m hts s => evT_ok hT hC hns hal hsn m0 ti n _ true B A ts pb rw a w hok.1.2 hk m hts s
      · exact stepD_ok hT hC hj hb m hts s fun B A ts pb rw a w hk m hts s => evT_ok hT hC hns hal hsn m0 tj n _ true B A ts pb rw a w hok.2 hk m hts s
    · cases h
  | .three i j k ti tj tk, n + 1, Lk, ph, B, A, ts, pb, rw, a, w, hok, h, m, hts, s => by
    simp only [okT, Bool.and_eq_true, beq_iff_eq] at hok
    simp only [evT] at h
    split at h
    · rename_i o o' o2 hi hj hk
      rw [nthO_s] at hi hj hk
      have hi : ops[i]? = some o := by simpa using hi
      have hj : ops[j]? = some o' := by simpa using hj
      have hk : ops[k]? = some o2 := by simpa using hk
      obtain ⟨ha, hb⟩ := both_s h
      obtain ⟨hb, hc⟩ := both_s hb
      refine wpAnyH_all hok.1.1.1 (by simp) fun l hl => ?_
      simp only [List.mem_cons, List.not_mem_nil, or_false] at hl
      rcases hl with rfl | rfl | rfl
      · exact stepD_ok hT hC hi ha m hts s fun B A ts pb rw a w hk m hts s => evT_ok hT hC hns hal hsn m0 ti n _ true B A ts pb rw a w hok.1.1.2 hk m hts s
      · exact stepD_ok hT hC hj hb m hts s fun B A ts pb rw a w hk m hts s => evT_ok hT hC hns hal hsn m0 tj n _ true B A ts pb rw a w hok.1.2 hk m hts s
      · exact stepD_ok hT hC hk hc m hts s fun B A ts pb rw a w hk m hts s => evT_ok hT hC hns hal hsn m0 tk n _ true B A ts pb rw a w hok.2 hk m hts s
    · cases h
  | .four i j k l ti tj tk tl, n + 1, Lk, ph, B, A, ts, pb, rw, a, w, hok, h, m, hts, s => by
    simp only [okT, Bool.and_eq_true, beq_iff_eq] at hok
    simp only [evT] at h
    split at h
    · rename_i o o' o2 o3 hi hj hk hl
      rw [nthO_s] at hi hj hk hl
      have hi : ops[i]? = some o := by simpa using hi
      have hj : ops[j]? = some o' := by simpa using hj
      have hk : ops[k]? = some o2 := by simpa using hk
      have hl : ops[l]? = some o3 := by simpa using hl
      obtain ⟨ha, hb⟩ := both_s h
      obtain ⟨hb, hc⟩ := both_s hb
      obtain ⟨hc, hd⟩ := both_s hc
      refine wpAnyH_all hok.1.1.1.1 (by simp) fun x hx => ?_
      simp only [List.mem_cons, List.not_mem_nil, or_false] at hx
      rcases hx with rfl | rfl | rfl | rfl
      · exact stepD_ok hT hC hi ha m hts s fun B A ts pb rw a w hk m hts s => evT_ok hT hC hns hal hsn m0 ti n _ true B A ts pb rw a w hok.1.1.1.2 hk m hts s
      · exact stepD_ok hT hC hj hb m hts s fun B A ts pb rw a w hk m hts s => evT_ok hT hC hns hal hsn m0 tj n _ true B A ts pb rw a w hok.1.1.2 hk m hts s
      · exact stepD_ok hT hC hk hc m hts s fun B A ts pb rw a w hk m hts s => evT_ok hT hC hns hal hsn m0 tk n _ true B A ts pb rw a w hok.1.2 hk m hts s
      · exact stepD_ok hT hC hl hd m hts s fun B A ts pb rw a w hk m hts s => evT_ok hT hC hns hal hsn m0 tl n _ true B A ts pb rw a w hok.2 hk m hts s
    · cases h
end
end Go.Vc

namespace Go.Vc
open Go Go.RowKit
section
variable {P : Program} {T : List TI} {V : World} {U0 L : Nat → Prop} {B : Nat → Nat} {A : Asg} {ts : List DV} {pb : DBs} {rw : List DR} {a : Act} {w : World} {β : Type} [EqB β] {q : β} {K : DK β} {Q : Exit → Act → World → Prop} {C : ESs}
theorem hasE_s : ∀ {pb : DBs} {i : Nat}, hasE pb i = true → live pb i
  | [], i, h => by simp [hasE] at h
  | o :: pb, 0, h => by
    cases o with
    | none => simp [hasE] at h
    | some b => exact ⟨b, rfl⟩
  | o :: pb, i + 1, h => by
    obtain ⟨b, hb⟩ := hasE_s (pb := pb) (i := i) (by simpa [hasE] using h)
    exact ⟨b, by simpa using hb⟩
theorem alOf_s {Ia : List Nat} {n i : Nat} (hi : i < n) (hm : memN i Ia = false) : alOf Ia n i = false := by
  unfold alOf
  rw [hm]
  cases h : Nat.ble n i with
  | false => rfl
  | true => have := Nat.le_of_ble_eq_true h; omega
theorem live_lt {pb : DBs} {i : Nat} (h : live pb i) : i < pb.length := let ⟨_, h⟩ := h; (List.getElem?_eq_some_iff.1 h).1
theorem setBE_eq : ∀ (L : List Bool) (i : Nat) (K : List Bool → Bool), setBE L i K = K (L.set i true)
  | [], _, _ => rfl
  | _ :: _, 0, _ => rfl
  | b :: l, i + 1, K => by simp only [setBE, setBE_eq l i, List.set_cons_succ]
theorem okQ_s {ops : Array Oper} : ∀ (t : OT) (n : Nat) (L : List Bool), okQ ops n t L = true → okT ops n t L.toArray = true
  | .nil, n, L, h => by cases n <;> simpa [okT, okQ] using h
  | .rd i t, 0, L, h => by simp [okQ] at h
  | .er i D t, 0, L, h => by simp [okQ] at h
  | .op i t, 0, L, h => by simp [okQ] at h
  | .two .., 0, L, h => by simp [okQ] at h
  | .three .., 0, L, h => by simp [okQ] at h
  | .four .., 0, L, h => by simp [okQ] at h
  | .rd i t, n + 1, L, h => by
    simp only [okQ, Bool.and_eq_true, setBE_eq] at h
    simp only [okT, Bool.and_eq_true, List.setIfInBounds_toArray]
    exact ⟨h.1, okQ_s t n _ h.2⟩
  | .er i D t, n + 1, L, h => by
    simp only [okQ, Bool.and_eq_true, setBE_eq] at h
    simp only [okT, Bool.and_eq_true, List.setIfInBounds_toArray]
    exact ⟨h.1, okQ_s t n _ h.2⟩
  | .op i t, n + 1, L, h => by
    simp only [okQ, Bool.and_eq_true, setBE_eq] at h
    simp only [okT, Bool.and_eq_true, List.setIfInBounds_toArray]
    exact ⟨h.1, okQ_s t n _ h.2⟩
  | .two i j ti tj, n + 1, L, h => by
    simp only [okQ, Bool.and_eq_true, setBE_eq] at h
    simp only [okT, Bool.and_eq_true, List.setIfInBounds_toArray]
    exact ⟨⟨h.1.1, okQ_s ti n _ h.1.2⟩, okQ_s tj n _ h.2⟩
  | .three i j k ti tj tk, n + 1, L, h => by
    simp only [okQ, Bool.and_eq_true, setBE_eq] at h
    simp only [okT, Bool.and_eq_true, List.setIfInBounds_toArray]
    exact ⟨⟨⟨h.1.1.1, okQ_s ti n _ h.1.1.2⟩, okQ_s tj n _ h.1.2⟩, okQ_s tk n _ h.2⟩
  | .four i j k l ti tj tk tl, n + 1, L, h => by
    simp only [okQ, Bool.and_eq_true, setBE_eq] at h
    simp only [okT, Bool.and_eq_true, List.setIfInBounds_toArray]
    exact ⟨⟨⟨⟨h.1.1.1.1, okQ_s ti n _ h.1.1.1.2⟩, okQ_s tj n _ h.1.1.2⟩, okQ_s tk n _ h.1.2⟩, okQ_s tl n _ h.2⟩
theorem drawD_ok (hT : TableOk P T) (hC : CsOk P C) (hm : P.follows .mixedOrders = true) {O : DTs} {id : Nat} {ops : Array Oper} (h : drawD stdW T C O id ops ts pb rw K = some q) (m : Mem V U0 L B A pb rw w) (hts : hL (env U0 B A pb rw w) ts a.tmps.toList)
    (hQ : ∀ a' w', Nx V U0 L B pb a K q a' w' → SameOut (dsts ops.toList) a a' → Q .normal a' w') : (Code.region id ops true).wp P Q a w := by
  unfold drawD at h
  split at h
  · rename_i Ia t htr
    split at h
    · rename_i hok
      simp only [Bool.and_eq_true] at hok
      have hok : Region.noSelect ops = true ∧ okT ops ops.size t (Array.replicate ops.size false) = true := ⟨hok.1, by
        have := okQ_s t _ _ hok.2
        have e : (ops.toList.map fun _ => false).toArray = Array.replicate ops.size false := by
          apply Array.ext'
          show ops.toList.map (fun _ => false) = List.replicate ops.size false
          rw [List.map_const', Array.length_toList]
        rwa [e] at this⟩
      rw [litE_eq] at h
      obtain ⟨av, pb', h, l, hl, hnone⟩ := placesE_s _ _ _ h
      have hp : ∀ (i : Nat) (b : DB), pb'[i]? = some (some b) ↔ pb[i]? = some (some b) := by
        intro i b
        subst hl
        rcases Nat.lt_or_ge i pb.length with hi | hi
        · rw [List.getElem?_append_left hi]
        · rw [List.getElem?_append_right hi]
          constructor
          · intro hx
            have := hnone _ (List.mem_of_getElem? hx)
            cases this
          · intro hx
            have := (List.getElem?_eq_some_iff.1 hx).1
            omega
      obtain ⟨m1, s1, _⟩ := m.world (al := fun _ => true) (w' := { w with drawn := w.drawn + 1 }) ⟨rfl, rfl, rfl, Nat.le_refl _⟩ (fun _ _ => rfl)
      obtain ⟨m2, s2, hlive⟩ := m1.places hp
      have hts2 := noSub s2 (noSub s1 hts)
      have hlt : ∀ i, live pb' i → i < pb.length := fun i hi => live_lt ((hlive i).1 hi)
      have := evT_ok (al := alOf Ia pb.length) (Ia := Ia) (sn := snOf Ia (hasE pb)) (K := K) (q := q) hT hC hok.1 (fun i hi hmi => alOf_s (hlt i hi) hmi) (fun i hi => by
        unfold snOf at hi
        split at hi
        · cases hi
        · rename_i hmi
          have hli := (hlive i).2 (hasE_s hi)
          exact ⟨hli, alOf_s (hlt i hli) hmi⟩) m2 t _ _ false B A ts pb' rw a _ hok.2 h m2 hts2 ⟨Ext.refl, SameOut.refl _ _, rfl, fun _ => ⟨rfl, rfl, rfl, rfl, rfl⟩⟩
      refine wp_mono (wp_region_held hm this) fun e a' w' hq => ?_
      cases e with
      | normal =>
        obtain ⟨hn, hso⟩ := hq
        obtain ⟨B', A', ts', pb1, rw', m', h1, h2, h3, h4⟩ := hn.nx
        exact hQ _ _ ⟨B', A', ts', pb1, rw', m', h1, h2, h3, fun i hi => h4 i ((hlive i).2 hi)⟩ hso
      | _ => exact hq.elim
    · cases h
  · cases h
end
end Go.Vc

namespace Go.Vc
open Go Go.RowKit
/-! ### Joins -/
theorem clrB_get : ∀ {pb : DBs} {i : Nat} {b : DB}, (clrB pb)[i]? = some (some b) ↔ ∃ b0, pb[i]? = some (some b0) ∧ b = ⟨b0.ty, b0.cells, false⟩
  | [], i, b => by simp [clrB]
  | some b0 :: pb, 0, b => by
    simp only [clrB, List.getElem?_cons_zero, Option.some.injEq]
    exact ⟨fun h => ⟨b0, rfl, h.symm⟩, fun ⟨b1, h1, h2⟩ => by subst h1; exact h2.symm⟩
  | none :: pb, 0, b => by simp [clrB]
  | some b0 :: pb, i + 1, b => by simp only [clrB, List.getElem?_cons_succ]; exact clrB_get
  | none :: pb, i + 1, b => by simp only [clrB, List.getElem?_cons_succ]; exact clrB_get
theorem clrB_live {pb : DBs} {i : Nat} : live (clrB pb) i ↔ live pb i := by
  constructor
  · rintro ⟨b, h⟩; obtain ⟨b0, h0, _⟩ := clrB_get.1 h; exact ⟨b0, h0⟩
  · rintro ⟨b, h⟩; exact ⟨_, clrB_get.2 ⟨b, h, rfl⟩⟩
def flW (ps : DBs) (i : Nat) : Bool := match ps[i]? with | some (some a) => a.w | _ => true
theorem orW_get : ∀ {pb ps : DBs} {i : Nat} {b : DB}, (orW ps pb)[i]? = some (some b) ↔ ∃ b0, pb[i]? = some (some b0) ∧ b = ⟨b0.ty, b0.cells, b0.w || flW ps i⟩
  | [], ps, i, b => by simp [orW]
  | none :: pb, ps, 0, b => by simp [orW]
  | some b0 :: pb, ps, 0, b => by
    simp only [orW, List.getElem?_cons_zero, Option.some.injEq]
    cases ps with
    | nil => exact ⟨fun h => ⟨b0, rfl, h.symm⟩, fun ⟨b1, h1, h2⟩ => by subst h1; exact h2.symm⟩
    | cons p ps => cases p <;> exact ⟨fun h => ⟨b0, rfl, h.symm⟩, fun ⟨b1, h1, h2⟩ => by subst h1; exact h2.symm⟩
  | none :: pb, ps, i + 1, b => by
    simp only [orW, List.getElem?_cons_succ]
    rw [orW_get]
    have : flW ps.tail i = flW ps (i + 1) := by cases ps <;> simp [flW]
    rw [this]
  | some b0 :: pb, ps, i + 1, b => by
    simp only [orW, List.getElem?_cons_succ]
    rw [orW_get]
    have : flW ps.tail i = flW ps (i + 1) := by cases ps <;> simp [flW]
    rw [this]
theorem orW_live {pb ps : DBs} {i : Nat} : live (orW ps pb) i ↔ live pb i := by
  constructor
  · rintro ⟨b, h⟩; obtain ⟨b0, h0, _⟩ := orW_get.1 h; exact ⟨b0, h0⟩
  · rintro ⟨b, h⟩; exact ⟨_, orW_get.2 ⟨b, h, rfl⟩⟩
section
variable {V : World} {U0 L Lx : Nat → Prop} {B B' : Nat → Nat} {A A' : Asg} {pb pb' : DBs} {rw rw' : List DR} {w w' : World}
/-- other lists of boxes, the same that live -/
theorem live_sub {E : Env} {pb' : DBs} (hl : ∀ i, live pb' i ↔ live E.pb i) (hU : ∀ b, Us U0 E.B E.A pb' E.rw b → E.U b) : Sub noF E (env U0 E.B E.A pb' E.rw E.w) :=
  ⟨⟨fun _ _ _ => rfl, Nat.le_refl _, fun b _ h => hU b h⟩, fun i h => ⟨(hl i).2 h, rfl⟩, fun j e t l _ h => ⟨l, h, rfl, rfl⟩, fun j d _ h => ⟨⟨d, h, rfl⟩, rfl⟩, fun j q e t l h => (by cases h), fun j q d ad h => (by cases h)⟩
theorem blk_live (hl : ∀ i, live pb' i ↔ live pb i) {k : Bool} {i b : Nat} : blk B A pb' rw k i b ↔ blk B A pb rw k i b := by
  cases k with
  | true => exact Iff.rfl
  | false => exact ⟨fun h => ⟨(hl i).1 h.1, h.2⟩, fun h => ⟨(hl i).2 h.1, h.2⟩⟩
theorem Us_live (hl : ∀ i, live pb' i ↔ live pb i) {b : Nat} : Us U0 B A pb' rw b ↔ Us U0 B A pb rw b :=
  ⟨fun h => h.imp id fun ⟨k, i, h⟩ => ⟨k, i, (blk_live hl).1 h⟩, fun h => h.imp id fun ⟨k, i, h⟩ => ⟨k, i, (blk_live hl).2 h⟩⟩
theorem Mem.anchor (m : Mem V U0 L B A pb rw w) : Mem w U0 (Ow B A pb rw) B A (clrB pb) rw w ∧ Sub noF (env U0 B A pb rw w) (env U0 B A (clrB pb) rw w) := by
  have hl : ∀ i, live (clrB pb) i ↔ live pb i := fun i => clrB_live
  have s : Sub noF (env U0 B A pb rw w) (env U0 B A (clrB pb) rw w) := live_sub (U0 := U0) (E := env U0 B A pb rw w) hl fun b h => (Us_live hl).1 h
  refine ⟨⟨rfl, rfl, rfl, Nat.le_refl _, fun _ _ _ => rfl, fun b hb => ⟨Nat.lt_of_lt_of_le (m.u0 b hb).1 m.size, fun ⟨k, i, h⟩ => ?_⟩, fun k i b h => ?_, fun k i k' i' b h h' => m.inj _ _ _ _ _ ((blk_live hl).1 h) ((blk_live hl).1 h'), fun i b h => ?_, fun j e t l h => ?_, fun j d h => let ⟨b, o, g1, g2, g3⟩ := m.itr j d h; ⟨b, o, g1, g2, OD.mono s.later g3⟩⟩, s⟩
  · rcases (m.low k i b h).2 with g | g
    · have := (m.u0 b hb).1; omega
    · exact (m.u0 b hb).2 g
  · have h := (blk_live hl).1 h
    exact ⟨(m.low k i b h).1, .inr ⟨k, i, h⟩⟩
  · obtain ⟨b0, h0, rfl⟩ := clrB_get.1 h
    obtain ⟨cs, h1, h2, _⟩ := m.box i b0 h0
    exact ⟨cs, h1, noSub s h2, fun _ => ⟨(Array.getElem?_eq_some_iff.1 h1).1, rfl⟩⟩
  · obtain ⟨xs, h1, h2⟩ := m.row j e t l h
    exact ⟨xs, h1, DT.hs_mono s.later h2⟩
theorem Mem.low2 (m : Mem V U0 L B A pb rw w) (hL : ∀ b, Lx b ↔ Ow B A pb rw b) (mx : Mem w U0 Lx B' A' pb' rw' w') : ∀ k i b, blk B' A' pb' rw' k i b → b < w'.heap.size ∧ (V.heap.size ≤ b ∨ L b) := fun k i b h =>
  ⟨(mx.low k i b h).1, (mx.low k i b h).2.elim (fun h => .inl (Nat.le_trans m.size h)) fun h => let ⟨k, i, h⟩ := (hL b).1 h; (m.low k i b h).2⟩
theorem Mem.same2 (m : Mem V U0 L B A pb rw w) (hL : ∀ b, Lx b ↔ Ow B A pb rw b) (mx : Mem w U0 Lx B' A' pb' rw' w') : ∀ b, b < V.heap.size → ¬ L b → w'.heap[b]? = V.heap[b]? := fun b hb hn => by
  rw [mx.same b (Nat.lt_of_lt_of_le hb m.size) fun h => ?_, m.same b hb hn]
  obtain ⟨k, i, h⟩ := (hL b).1 h
  rcases (m.low k i b h).2 with h | h
  · omega
  · exact hn h
/-- an exit past a join, out of a loop -/
theorem Mem.out2 (m : Mem V U0 L B A pb rw w) (hL : ∀ b, Lx b ↔ Ow B A pb rw b) (mx : Mem w U0 Lx B' A' pb' rw' w') (hb : ∀ i, live pb i → B' i = B i) : Mem V U0 L B' A' (orW pb pb') rw' w' ∧ Sub noF (env U0 B' A' pb' rw' w') (env U0 B' A' (orW pb pb') rw' w') := by
  have hl : ∀ i, live (orW pb pb') i ↔ live pb' i := fun i => orW_live
  have s : Sub noF (env U0 B' A' pb' rw' w') (env U0 B' A' (orW pb pb') rw' w') := live_sub (U0 := U0) (E := env U0 B' A' pb' rw' w') hl fun b h => (Us_live hl).1 h
  refine ⟨⟨mx.os.trans m.os, mx.tape.trans m.tape, mx.output.trans m.output, Nat.le_trans m.size mx.size, m.same2 hL mx, m.u0, fun k i b h => m.low2 hL mx k i b ((blk_live hl).1 h), fun k i k' i' b h h' => mx.inj _ _ _ _ _ ((blk_live hl).1 h) ((blk_live hl).1 h'), fun i b h => ?_, fun j e t l h => ?_, fun j d h => let ⟨b, o, g1, g2, g3⟩ := mx.itr j d h; ⟨b, o, g1, g2, OD.mono s.later g3⟩⟩, s⟩
  · obtain ⟨b0, h0, rfl⟩ := orW_get.1 h
    obtain ⟨cs, h1, h2, h3⟩ := mx.box i b0 h0
    refine ⟨cs, h1, noSub s h2, fun hw => ?_⟩
    simp only [Bool.or_eq_false_iff] at hw
    obtain ⟨hw1, hw2⟩ := hw
    obtain ⟨g1, g2⟩ := h3 hw1
    unfold flW at hw2
    split at hw2
    · rename_i b1 hb1
      obtain ⟨cs1, _, _, h6⟩ := m.box i b1 hb1
      obtain ⟨g3, g4⟩ := h6 hw2
      rw [hb i ⟨_, hb1⟩] at g2 ⊢
      exact ⟨g3, g2.trans g4⟩
    · cases hw2
  · obtain ⟨xs, h1, h2⟩ := mx.row j e t l h
    exact ⟨xs, h1, DT.hs_mono s.later h2⟩
end
/-! what is carried -/
section
variable {β : Type} {q : β}
theorem cleanB_s {l : List Nat} : ∀ {n : Nat} {pb pb' : DBs}, cleanB l n pb pb' = true → ∀ i b, pb[i]? = some (some b) → ∃ b', pb'[i]? = some (some b') ∧ b.ty = b'.ty ∧ (memN (n + i) l = true ∨ b'.w = false)
  | _, [], _, _, i, b, hi => by simp at hi
  | n, none :: pb, [], h, i, b, hi => by simp [cleanB] at h
  | n, none :: pb, p' :: pb', h, i, b, hi => by
    cases i with
    | zero => simp at hi
    | succ i =>
      simp only [cleanB] at h
      obtain ⟨b', h1, h2, h3⟩ := cleanB_s h i b (by simpa using hi)
      exact ⟨b', by simpa using h1, h2, by rwa [show n + (i + 1) = n + 1 + i by omega]⟩
  | n, some c :: pb, [], h, i, b, hi => by simp [cleanB] at h
  | n, some c :: pb, none :: pb', h, i, b, hi => by simp [cleanB] at h
  | n, some c :: pb, some c' :: pb', h, i, b, hi => by
    simp only [cleanB, Bool.and_eq_true, Bool.or_eq_true, Bool.not_eq_true'] at h
    obtain ⟨⟨h1, h2⟩, h3⟩ := h
    cases i with
    | zero => simp at hi; subst hi; exact ⟨c', rfl, Nat.eq_of_beq_eq_true h1, h2⟩
    | succ i =>
      obtain ⟨b', g1, g2, g3⟩ := cleanB_s h3 i b (by simpa using hi)
      exact ⟨b', by simpa using g1, g2, by rwa [show n + (i + 1) = n + 1 + i by omega]⟩
theorem cleanB_clr {l : List Nat} : ∀ {n : Nat} {pb pb' : DBs}, cleanB l n (clrB pb) pb' = cleanB l n pb pb'
  | _, [], _ => rfl
  | n, none :: pb, [] => by simp only [clrB, cleanB]
  | n, none :: pb, p' :: pb' => by simp only [clrB, cleanB]; exact cleanB_clr
  | n, some c :: pb, [] => by simp only [clrB, cleanB]
  | n, some c :: pb, none :: pb' => by simp only [clrB, cleanB]
  | n, some c :: pb, some c' :: pb' => by simp only [clrB, cleanB]; rw [cleanB_clr]
theorem outD_clr {j : DJ} {pb pb' : DBs} {ts : List DV} {rw : List DR} {k : j.T.den → Option β} : outD j (clrB pb) ts pb' rw k = outD j pb ts pb' rw k := by unfold outD; rw [cleanB_clr]
theorem gtVs_h {E : Env} {ts : List DV} {us : List Value} (hts : hL E ts us) : ∀ {ns : List Nat} {vs : List DV}, gtVs ts ns = some vs → hL E vs (ns.map fun n => (us[n]?).getD undef)
  | [], vs, h => by simp only [gtVs, Option.some.injEq] at h; subst h; simp [hL]
  | n :: ns, vs, h => by
    simp only [gtVs] at h
    split at h
    · rename_i v vs' h1 h2
      simp only [Option.some.injEq] at h; subst h
      simp only [List.map_cons, hL]
      exact ⟨_, _, rfl, gtV_h h1 hts, gtVs_h hts h2⟩
    · cases h
structure RoS (ro : List RKd) (rs rw : List DR) : Prop where
  own : ∀ (n : Nat) (e : TypeId) (t : DT) (l : List t.den), rs[n]? = some (DR.own e t l) → rw[n]? = some (DR.own e t l) ∨ (l = [] ∧ (rw[n]? = none ∨ rw[n]? = some DR.dead))
  itr : ∀ (n : Nat) (d : OD), rs[n]? = some (DR.obj d) → ∃ d', rw[n]? = some (DR.obj d') ∧ d.isM = d'.isM ∧ ∀ U w o, d'.h U w o → d.h U w o
  isO : ∀ n : Nat, roN ro n = true → ∃ (e : TypeId) (t : DT) (l : List t.den), rs[n]? = some (DR.own e t l)
  isI : ∀ n : Nat, roI ro n = true → ∃ d : OD, rs[n]? = some (DR.obj d)
theorem roX_s : ∀ {ro : List RKd} {rw : List DR} {y : (roT ro).den}, roX ro rw = some y → RoS ro (roV ro y) rw
  | [], rw, y, h => ⟨fun n e t l h => by simp [roV] at h, fun n d h => by simp [roV] at h, fun n h => by simp [roN] at h, fun n h => by simp [roI] at h⟩
  | k :: ro, rw, y, h => by
    have up : ∀ {r : DR} {y' : (roT ro).den}, roX ro rw.tail = some y' → roV (k :: ro) y = r :: roV ro y' →
        (∀ (e : TypeId) (t : DT) (l : List t.den), r = DR.own e t l → rw[0]? = some (DR.own e t l) ∨ (l = [] ∧ (rw[0]? = none ∨ rw[0]? = some DR.dead))) → (∀ d : OD, r = DR.obj d → ∃ d', rw[0]? = some (DR.obj d') ∧ d.isM = d'.isM ∧ ∀ U w o, d'.h U w o → d.h U w o) → (roN (k :: ro) 0 = true → ∃ (e : TypeId) (t : DT) (l : List t.den), r = DR.own e t l) → (roI (k :: ro) 0 = true → ∃ d : OD, r = DR.obj d) →
        RoS (k :: ro) (roV (k :: ro) y) rw := by
      intro r y' hy he h1 h2 h3 h4
      obtain ⟨g1, g2, g3, g4⟩ := roX_s hy
      have ht : ∀ n, rw.tail[n]? = rw[n + 1]? := fun n => by cases rw <;> simp
      rw [he]
      refine ⟨fun n e t l hn => ?_, fun n d hn => ?_, fun n hn => ?_, fun n hn => ?_⟩
      · cases n with
        | zero => simp at hn; exact h1 e t l hn
        | succ n => have := g1 n e t l (by simpa using hn); rwa [ht] at this
      · cases n with
        | zero => simp at hn; exact h2 d hn
        | succ n => have := g2 n d (by simpa using hn); rwa [ht] at this
      · cases n with
        | zero => obtain ⟨e, t, l, rfl⟩ := h3 hn; exact ⟨e, t, l, rfl⟩
        | succ n => obtain ⟨e, t, l, h⟩ := g3 n (by simpa [roN] using hn); exact ⟨e, t, l, by simpa using h⟩
      · cases n with
        | zero => obtain ⟨d, rfl⟩ := h4 hn; exact ⟨d, rfl⟩
        | succ n => obtain ⟨d, h⟩ := g4 n (by simpa [roI] using hn); exact ⟨d, by simpa using h⟩
    cases k with
    | own e t =>
      unfold roX at h
      split at h
      · rename_i e' t' xs rw'
        split at h
        · rename_i ht y1 he hq hy
          have h := Option.some.inj h; subst h
          subst ht
          have he := Nat.eq_of_beq_eq_true he; subst he
          exact up hy rfl (fun e2 t2 l2 h => .inl (by rw [← h]; rfl)) (fun _ h => by cases h) (fun _ => ⟨_, _, _, rfl⟩) (fun h => by simp [roI] at h)
        · cases h
      · cases h
      · split at h
        · rename_i hy
          have h := Option.some.inj h; subst h
          exact up hy rfl (fun e2 t2 l2 h => .inr ⟨by cases h; rfl, .inr rfl⟩) (fun _ h => by cases h) (fun _ => ⟨_, _, _, rfl⟩) (fun h => by simp [roI] at h)
        · cases h
      · split at h
        · rename_i hy
          have h := Option.some.inj h; subst h
          exact up hy rfl (fun e2 t2 l2 h => .inr ⟨by cases h; rfl, .inl rfl⟩) (fun _ h => by cases h) (fun _ => ⟨_, _, _, rfl⟩) (fun h => by simp [roI] at h)
        · cases h
    | obj k =>
      unfold roX at h
      split at h
      · split at h
        · rename_i hk hy
          have h := Option.some.inj h; subst h
          exact up hy rfl (fun _ _ _ h => by cases h) (fun d h => by cases h; exact ⟨_, rfl, OKd.of_s hk⟩) (fun h => by simp [roN] at h) (fun _ => ⟨_, rfl⟩)
        · cases h
      · cases h
    | dead =>
      unfold roX at h
      exact up h rfl (fun _ _ _ h => by cases h) (fun _ h => by cases h) (fun h => by simp [roN] at h) (fun h => by simp [roI] at h)
theorem junkE_s : ∀ {xs : List DV} {bs : List Bool} {K : List DV → Option β}, junkE xs bs K = some q → ∃ l, K l = some q ∧ ∀ (E : Env) (vs : List Value), vs.length = xs.length → (∀ (i : Nat) (p : DV) (v : Value), bs[i]? = some false → xs[i]? = some p → vs[i]? = some v → p.h E v) → hL E l vs
  | [], [], K, h => ⟨[], h, fun E vs hl _ => by simp only [hL]; exact List.length_eq_zero_iff.1 (by simpa using hl)⟩
  | [], b :: bs, K, h => by simp [junkE] at h
  | x :: xs, [], K, h => by simp [junkE] at h
  | x :: xs, b :: bs, K, h => by
    simp only [junkE] at h
    split at h
    · obtain ⟨l, h1, h2⟩ := junkE_s h
      refine ⟨_, h1, fun E vs hl hh => ?_⟩
      cases vs with
      | nil => simp at hl
      | cons v vs => simp only [hL]; exact ⟨v, vs, rfl, by simp only [DV.h], h2 E vs (by simpa using hl) fun i p u g1 g2 g3 => hh (i + 1) p u (by simpa using g1) (by simpa using g2) (by simpa using g3)⟩
    · obtain ⟨l, h1, h2⟩ := junkE_s h
      refine ⟨_, h1, fun E vs hl hh => ?_⟩
      cases vs with
      | nil => simp at hl
      | cons v vs => simp only [hL]; exact ⟨v, vs, rfl, hh 0 x v rfl rfl rfl, h2 E vs (by simpa using hl) fun i p u g1 g2 g3 => hh (i + 1) p u (by simpa using g1) (by simpa using g2) (by simpa using g3)⟩
theorem maskOf_s {ws : List Nat} : ∀ {n i k : Nat} {b : Bool}, (maskOf ws n i)[k]? = some b → b = memN (i + k) ws
  | 0, i, k, b, h => by simp [maskOf] at h
  | n + 1, i, 0, b, h => by simp [maskOf] at h; exact h.symm
  | n + 1, i, k + 1, b, h => by
    have := maskOf_s (n := n) (i := i + 1) (k := k) (b := b) (by simpa [maskOf] using h)
    rwa [show i + (k + 1) = i + 1 + k by omega]
theorem set_get {us : List Value} {n : Nat} : us.set n ((us[n]?).getD undef) = us := by
  apply List.ext_getElem?
  intro i
  rw [List.getElem?_set]
  split
  · rename_i h; subst h
    split
    · rename_i h; simp [h]
    · rename_i h; rw [List.getElem?_eq_none (by omega)]
  · rfl
def setsL : List DV → List Nat → List DV → List DV
  | ts, n :: ns, v :: vs => setsL (ts.set n v) ns vs
  | ts, _, _ => ts
theorem setsE_eq : ∀ {ns : List Nat} {ts vs : List DV} {K : List DV → Option β}, setsE ts ns vs K = some q → K (setsL ts ns vs) = some q
  | [], ts, [], K, h => h
  | [], ts, v :: vs, K, h => by simp [setsE] at h
  | n :: ns, ts, [], K, h => by simp [setsE] at h
  | n :: ns, ts, v :: vs, K, h => by
    simp only [setsE, setE_eq] at h
    have h2 := setsE_eq h
    simpa only [setsL] using h2
theorem setsE_h {E : Env} {us : List Value} : ∀ {ns : List Nat} {ts vs : List DV}, hL E ts us → hL E vs (ns.map fun n => (us[n]?).getD undef) → hL E (setsL ts ns vs) us
  | [], ts, [], hts, hvs => hts
  | [], ts, v :: vs, hts, hvs => hts
  | n :: ns, ts, [], hts, hvs => hts
  | n :: ns, ts, v :: vs, hts, hvs => by
    simp only [List.map_cons, hL] at hvs
    obtain ⟨u, us', e, h1, h2⟩ := hvs
    simp only [List.cons.injEq] at e
    obtain ⟨rfl, rfl⟩ := e
    have := hL_set hts n h1
    rw [set_get] at this
    simp only [setsL]
    exact setsE_h this h2
theorem setBs_s : ∀ {is : List Nat} {pb : DBs} {cs : List (List DV)} {K : DBs → Option β}, setBs pb is cs K = some q → ∃ pb', K pb' = some q ∧ (∀ i, live pb' i ↔ live pb i) ∧
    ∀ i b, pb'[i]? = some (some b) → ∃ b0, pb[i]? = some (some b0) ∧ b.ty = b0.ty ∧ ((i ∉ is ∧ b = b0) ∨ ∃ (k : Nat) (c : List DV), is[k]? = some i ∧ cs[k]? = some c ∧ b.cells = c ∧ b.w = true)
  | [], pb, [], K, h => ⟨pb, h, fun _ => Iff.rfl, fun i b hb => ⟨b, hb, rfl, .inl ⟨by simp, rfl⟩⟩⟩
  | [], pb, c :: cs, K, h => by simp [setBs] at h
  | i0 :: is, pb, [], K, h => by simp [setBs] at h
  | i0 :: is, pb, c :: cs, K, h => by
    simp only [setBs] at h
    split at h
    · rename_i b0 hb0
      rw [dbV_spec] at hb0
      rw [setE_eq] at h
      obtain ⟨pb', h1, h2, h3⟩ := setBs_s h
      have hlt := (List.getElem?_eq_some_iff.1 hb0).1
      have hl : ∀ i, live (pb.set i0 (some ⟨b0.ty, c, true⟩)) i ↔ live pb i := fun i => by
        simp only [live, List.getElem?_set]
        split
        · rename_i h; subst h; exact ⟨fun _ => ⟨_, hb0⟩, fun _ => ⟨⟨b0.ty, c, true⟩, by simp []⟩⟩
        · rfl
      refine ⟨pb', h1, fun i => (h2 i).trans (hl i), fun i b hb => ?_⟩
      obtain ⟨b1, g1, g2, g3⟩ := h3 i b hb
      rw [List.getElem?_set] at g1
      split at g1
      · rename_i hi; subst hi
        simp only [Option.some.injEq] at g1; subst g1
        refine ⟨b0, hb0, g2, .inr ?_⟩
        rcases g3 with ⟨_, rfl⟩ | ⟨k, c', k1, k2, k3⟩
        · exact ⟨0, c, rfl, rfl, rfl, rfl⟩
        · exact ⟨k + 1, c', by simpa using k1, by simpa using k2, k3⟩
      · rename_i hi
        refine ⟨b1, g1, g2, ?_⟩
        rcases g3 with ⟨k1, k2⟩ | ⟨k, c', k1, k2, k3⟩
        · exact .inl ⟨by simp [Ne.symm hi, k1], k2⟩
        · exact .inr ⟨k + 1, c', by simpa using k1, by simpa using k2, k3⟩
    · cases h
end
/-! what a join's state stands for -/
section
variable {E E2 : Env} {pb : DBs} {ro : List RKd} {rw : List DR}
/-- what the state behind a join takes over -/
structure Over (pb : DBs) (ro : List RKd) (rw : List DR) (E E2 : Env) : Prop where
  data : Later E.U E2.U E.w E2.w
  row : ∀ j v u, okRowV ro rw j v = true → v.h E u → (DV.row j).h E2 u
  ob : ∀ j v u, okObV ro rw j v = true → v.h E u → (DV.ob j).h E2 u
  own : ∀ i, live pb i → live E2.pb i ∧ E2.B i = E.B i
theorem okOwn_h (O : Over pb ro rw E E2) {i o : Nat} {v : DV} {u : Value} (hx : okOwnV i o v = true) (ho : (dbV pb i).isSome = true) (hv : v.h E u) : (DV.own i o).h E2 u := by
  unfold okOwnV at hx
  split at hx
  · rename_i i' o'
    simp only [Bool.and_eq_true] at hx
    have e1 := Nat.eq_of_beq_eq_true hx.1
    have e2 := Nat.eq_of_beq_eq_true hx.2
    subst e1; subst e2
    simp only [DV.h] at hv ⊢
    have hli : live pb i := by
      cases hd : dbV pb i with
      | none => rw [hd] at ho; cases ho
      | some b => exact ⟨b, dbV_spec.1 hd⟩
    obtain ⟨g1, g2⟩ := O.own i hli
    exact ⟨g1, by rw [g2]; exact hv.2⟩
  · cases hx
theorem okCaps_h (O : Over pb ro rw E E2) : ∀ {cs : List (Nat × Nat)} {vs : List DV} {us : List Value}, okCapsV cs vs = true → ownCs pb cs = true → hL E vs us → hL E2 (ownL cs) us
  | [], [], us, _, _, h => h
  | [], _ :: _, _, h, _, _ => by simp [okCapsV] at h
  | (_, _) :: _, [], _, h, _, _ => by simp [okCapsV] at h
  | (i, o) :: cs, v :: vs, us, h, ho, hv => by
    simp only [hL] at hv
    obtain ⟨u, us', rfl, hv1, hv2⟩ := hv
    simp only [okCapsV, Bool.and_eq_true] at h
    simp only [ownCs, Bool.and_eq_true] at ho
    simp only [ownL, hL]
    exact ⟨u, us', rfl, okOwn_h O h.1 ho.1 hv1, okCaps_h O h.2 ho.2 hv2⟩
theorem vsX_s (O : Over pb ro rw E E2) : ∀ (cs : List DS) (r : DT) {vs : List DV} {us : List Value} {y : r.den} {z : (vsT cs r).den}, vsX ro rw cs r vs y = some z → hL E vs us → ownDS pb cs = true → (vsV cs r z).2 = y ∧ hL E2 (vsV cs r z).1 us
  | [], r, vs, us, y, z, h, hv, ho => by
    cases vs with
    | nil => simp only [vsX] at h; have h : y = z := Option.some.inj h; subst h; exact ⟨rfl, hv⟩
    | cons v vs => simp [vsX] at h
  | c :: cs, r, [], us, y, z, h, hv, ho => by cases c <;> simp [vsX] at h
  | c :: cs, r, v :: vs, us, y, z, h, hv, ho => by
    simp only [hL] at hv
    obtain ⟨u, us', rfl, hv1, hv2⟩ := hv
    simp only [ownDS, Bool.and_eq_true] at ho
    cases c with
    | t t =>
      simp only [vsX] at h
      split at h
      · rename_i x z' hx hz
        have h := Option.some.inj h; subst h
        obtain ⟨h1, h2⟩ := vsX_s O cs r hz hv2 ho.2
        refine ⟨h1, ?_⟩
        simp only [vsV, hL]
        exact ⟨u, us', rfl, t.val_h (DT.hv_mono O.data (DT.ofV_h hx hv1)), h2⟩
      · cases h
    | row j =>
      simp only [vsX] at h
      split at h
      · rename_i hx
        obtain ⟨h1, h2⟩ := vsX_s O cs r h hv2 ho.2
        refine ⟨h1, ?_⟩
        simp only [vsV, hL]
        exact ⟨u, us', rfl, O.row _ _ _ hx hv1, h2⟩
      · cases h
    | ob j =>
      simp only [vsX] at h
      split at h
      · rename_i hx
        obtain ⟨h1, h2⟩ := vsX_s O cs r h hv2 ho.2
        refine ⟨h1, ?_⟩
        simp only [vsV, hL]
        exact ⟨u, us', rfl, O.ob _ _ _ hx hv1, h2⟩
      · cases h
    | own i o =>
      simp only [vsX] at h
      split at h
      · rename_i hx
        obtain ⟨h1, h2⟩ := vsX_s O cs r h hv2 ho.2
        refine ⟨h1, ?_⟩
        simp only [vsV, hL]
        refine ⟨u, us', rfl, ?_, h2⟩
        unfold okOwnV at hx
        split at hx
        · rename_i i' o'
          simp only [Bool.and_eq_true] at hx
          have e1 := Nat.eq_of_beq_eq_true hx.1
          have e2 := Nat.eq_of_beq_eq_true hx.2
          subst e1; subst e2
          simp only [DV.h] at hv1 ⊢
          have hli : live pb i := by
            cases hd : dbV pb i with
            | none => have h3 := ho.1; simp only [hd] at h3; cases h3
            | some b => exact ⟨b, dbV_spec.1 hd⟩
          obtain ⟨g1, g2⟩ := O.own i hli
          exact ⟨g1, by rw [g2]; exact hv1.2⟩
        · cases hx
      · cases h
    | nil =>
      simp only [vsX] at h
      split at h
      · rename_i hx
        obtain ⟨h1, h2⟩ := vsX_s O cs r h hv2 ho.2
        refine ⟨h1, ?_⟩
        simp only [vsV, hL]
        refine ⟨u, us', rfl, ?_, h2⟩
        unfold okNilV at hx
        split at hx
        · simp only [DV.h] at hv1 ⊢; exact hv1
        · cases hx
      · cases h
    | fn f cs' =>
      simp only [vsX] at h
      split at h
      · rename_i hx
        obtain ⟨h1, h2⟩ := vsX_s O cs r h hv2 ho.2
        refine ⟨h1, ?_⟩
        simp only [vsV, hL]
        refine ⟨u, us', rfl, ?_, h2⟩
        unfold okFnV at hx
        split at hx
        · rename_i f' caps
          simp only [Bool.and_eq_true] at hx
          have e1 := Nat.eq_of_beq_eq_true hx.1
          subst e1
          simp only [DV.h] at hv1 ⊢
          obtain ⟨ws, rfl, hw⟩ := hv1
          exact ⟨ws, rfl, okCaps_h O hx.2 ho.1 hw⟩
        · cases hx
      · cases h
theorem boX_s (O : Over pb ro rw E E2) {pb' : DBs} {cs : Nat → List Value → TypeId → Prop} (hb : ∀ i b, pb'[i]? = some (some b) → ∃ us, cs i us b.ty ∧ hL E b.cells us) : ∀ (l : List (Nat × List DS)) (r : DT) {y : r.den} {z : (boT l r).den}, boX ro pb' rw l r y = some z → ownBo pb l = true →
    (boV l r z).2 = y ∧ ∀ (k i : Nat) (c : List DV), (boN l)[k]? = some i → (boV l r z).1[k]? = some c → ∃ us t, cs i us t ∧ hL E2 c us
  | [], r, y, z, h, ho => by
    simp only [boX] at h
    have h : y = z := Option.some.inj h
    subst h
    exact ⟨rfl, fun k i c h => by simp [boN] at h⟩
  | (i0, ds) :: l, r, y, z, h, ho => by
    simp only [ownBo, Bool.and_eq_true] at ho
    unfold boX at h
    cases hb1 : dbV pb' i0 with
    | none => simp [hb1] at h
    | some b =>
    cases hz : boX ro pb' rw l r y with
    | none => simp [hb1, hz] at h
    | some z1 =>
      rw [hb1, hz] at h
      rw [dbV_spec] at hb1
      obtain ⟨us, h1, h2⟩ := hb i0 b hb1
      obtain ⟨g1, g2⟩ := boX_s O hb l r hz ho.2
      obtain ⟨g3, g4⟩ := vsX_s O ds _ h h2 ho.1.2
      have e : (boV ((i0, ds) :: l) r z) = ((vsV ds (boT l r) z).1 :: (boV l r z1).1, (boV l r z1).2) := by
        simp only [boV, g3]
      rw [e]
      refine ⟨g1, fun k i c hk hc => ?_⟩
      cases k with
      | zero => simp [boN] at hk hc; subst hk; subst hc; exact ⟨us, _, h1, g4⟩
      | succ k => exact g2 k i c (by simpa [boN] using hk) (by simpa using hc)
end
end Go.Vc

namespace Go.Vc
open Go Go.RowKit
section
variable {V : World} {U0 L Lx : Nat → Prop} {B B' : Nat → Nat} {A A' : Asg} {pb pb' : DBs} {rw rw' : List DR} {w w' : World} {ts ts' : List DV} {a a' : Act} {β : Type}
/-- rows as they are taken over -/
def rowA (A : Asg) (rw : List DR) : Asg := fun n => match rw[n]? with
  | some (.own _ _ _) => A n
  | some (.obj _) => A n
  | _ => (none, 0)
theorem owns_nil {e : TypeId} {k : Nat} : w.ownsRow 0 e k (.slice none 0 0) 0 [] := ⟨by simp, .inl ⟨rfl, rfl⟩⟩
/-- THE STATE BEHIND A JOIN -/
theorem join_ok {j : DJ} {x : Code} (m : Mem V U0 L B A pb rw w) (hts : hL (env U0 B A pb rw w) ts a.tmps.toList) (hok : okJ j x ts pb = true) (hLx : ∀ b, Lx b ↔ Ow B A pb rw b) (mx : Mem w U0 Lx B' A' pb' rw' w') (hx : hL (env U0 B' A' pb' rw' w') ts' a'.tmps.toList) (hso : SameOut (writes x) a a')
    (hbx : ∀ i, live pb i → live pb' i ∧ B' i = B i) {k : j.T.den → Option β} {q : β} (h : outD j pb ts' pb' rw' k = some q) :
    ∃ z, k z = some q ∧ ∀ {γ : Type} {K : DK γ} {q : γ}, headD j x ts pb z K = some q → ∃ A2 ts1 pb1 rw1, Mem V U0 L B' A2 pb1 rw1 w' ∧ hL (env U0 B' A2 pb1 rw1 w') ts1 a'.tmps.toList ∧ K ts1 pb1 rw1 = some q ∧ (∀ i, live pb1 i ↔ live pb i) ∧ ∀ i, live pb i → B' i = B i := by
  unfold outD at h
  split at h
  · rename_i hcl
    obtain ⟨ts2, pb2, rw2, ps, h, m2, hts2, _, e2, _⟩ := frzE_s (al := fun _ => true) (ps := []) (us := []) _ h mx hx (by simp [hL])
    split at h
    · rename_i vs y hvs hy
      split at h
      · rename_i y2 hy2
        split at h
        · rename_i z hz
          refine ⟨z, h, fun {γ K q} hd => ?_⟩
          simp only [okJ, Bool.and_eq_true] at hok
          obtain ⟨⟨⟨⟨_, ho1⟩, ho2⟩, _⟩, _⟩ := hok
          have R := roX_s hy
          have hU : ∀ (pb3 : DBs), (∀ i, live pb3 i ↔ live pb i) → ∀ kd i b, blk B' (rowA A' rw2) pb3 (roV j.ro y) kd i b → blk B' A' pb2 rw2 kd i b ∧ (kd = true → (rowA A' rw2) i = A' i) := by
            intro pb3 hl kd i b hb
            cases kd with
            | false => exact ⟨⟨(e2.bx i (hbx i ((hl i).1 hb.1)).1).1, hb.2⟩, fun h => by cases h⟩
            | true =>
              obtain ⟨r, ad, h1, h2, h3, h4⟩ := hb
              cases r with
              | dead => exact absurd rfl h2
              | own e t l =>
                rcases R.own i e t l h1 with g | ⟨_, g⟩
                · have e3 : rowA A' rw2 i = A' i := by unfold rowA; rw [g]
                  exact ⟨⟨_, ad, g, by simp, by rw [← e3]; exact h3, h4⟩, fun _ => e3⟩
                · have e3 : rowA A' rw2 i = (none, 0) := by unfold rowA; rcases g with g | g <;> rw [g]
                  rw [e3] at h3; cases h3
              | obj d =>
                obtain ⟨d', g, _⟩ := R.itr i d h1
                have e3 : rowA A' rw2 i = A' i := by unfold rowA; rw [g]
                exact ⟨⟨_, ad, g, by simp, by rw [← e3]; exact h3, h4⟩, fun _ => e3⟩
          have hUs : ∀ (pb3 : DBs), (∀ i, live pb3 i ↔ live pb i) → ∀ b, Us U0 B' (rowA A' rw2) pb3 (roV j.ro y) b → Us U0 B' A' pb2 rw2 b := fun pb3 hl b hb => hb.imp id fun ⟨kd, i, hb⟩ => ⟨kd, i, (hU pb3 hl kd i b hb).1⟩
          have over : ∀ (pb3 : DBs), (∀ i, live pb3 i ↔ live pb i) → Over pb j.ro rw2 (env U0 B' A' pb2 rw2 w') (env U0 B' (rowA A' rw2) pb3 (roV j.ro y) w') := by
            intro pb3 hl
            refine ⟨⟨fun _ _ _ => rfl, Nat.le_refl _, fun b _ hb => hUs pb3 hl b hb⟩, fun n v u hr hv => ?_, fun n v u hr hv => ?_, fun i hi => ⟨(hl i).2 hi, rfl⟩⟩
            · unfold okRowV at hr
              simp only [Bool.and_eq_true] at hr
              obtain ⟨hr1, hr2⟩ := hr
              obtain ⟨e, t, l, hn⟩ := R.isO n hr1
              simp only [DV.h]
              refine ⟨e, t, l, hn, ?_⟩
              split at hr2
              · rename_i j'
                split at hr2
                · rename_i e3 t3 l3 hj hd
                  rw [drV_spec] at hd
                  have hj := Nat.eq_of_beq_eq_true hj
                  subst hj
                  simp only [DV.h] at hv
                  obtain ⟨e4, t4, l4, h4, rfl⟩ := hv
                  have h4 : rw2[n]? = some (.own e4 t4 l4) := h4
                  rcases R.own n e t l hn with g | ⟨_, g⟩
                  · rw [h4] at g
                    simp only [Option.some.injEq, DR.own.injEq] at g
                    obtain ⟨rfl, rfl, g⟩ := g
                    cases g
                    change Value.slice (A' n).1 _ (A' n).2 = Value.slice (rowA A' rw2 n).1 _ (rowA A' rw2 n).2
                    rw [show rowA A' rw2 n = A' n by unfold rowA; rw [h4]]
                  · rw [h4] at g; simp at g
                · cases hr2
              · simp only [DV.h] at hv
                split at hr2
                · cases hr2
                · rename_i hno
                  rw [drV_spec] at hno
                  rcases R.own n e t l hn with g | ⟨rfl, g⟩
                  · exact absurd g (hno e t l)
                  · change u = Value.slice (rowA A' rw2 n).1 0 (rowA A' rw2 n).2
                    rw [show rowA A' rw2 n = (none, 0) by unfold rowA; rcases g with g | g <;> rw [g]]
                    exact hv
              · cases hr2
            · unfold okObV at hr
              simp only [Bool.and_eq_true] at hr
              obtain ⟨hr1, hr2⟩ := hr
              obtain ⟨d, hn⟩ := R.isI n hr1
              split at hr2
              · rename_i j'
                split at hr2
                · rename_i d3 hj hd
                  have hj := Nat.eq_of_beq_eq_true hj
                  subst hj
                  simp only [DV.h] at hv ⊢
                  obtain ⟨d4, ad, h4, h5, rfl⟩ := hv
                  obtain ⟨d', g, gm, _⟩ := R.itr n d hn
                  have h4 : rw2[n]? = some (.obj d4) := h4
                  rw [g] at h4; simp only [Option.some.injEq, DR.obj.injEq] at h4; subst h4
                  refine ⟨d, ad, hn, ?_, by simp only [OD.at, gm]⟩
                  change (rowA A' rw2 n).1 = some ad
                  rw [show rowA A' rw2 n = A' n by unfold rowA; rw [g]]
                  exact h5
                · cases hr2
              · cases hr2
          -- the state
          unfold headD at hd
          generalize hzz : vsV (dsS j.sl) (boT j.bo (roT j.ro)) z = zz at hd
          obtain ⟨vs3, y3⟩ := zz
          dsimp only at hd
          generalize hyy : boV j.bo (roT j.ro) y3 = yy at hd
          obtain ⟨vss, y4⟩ := yy
          dsimp only at hd
          rw [subLE_eq] at hd
          obtain ⟨ts3, hd, hj3⟩ := junkE_s hd
          have hy3 : y3 = y2 := by
            have := (vsX_s (over pb fun _ => Iff.rfl) _ _ hz (gtVs_h hts2 hvs) ho1).1
            rw [hzz] at this; exact this
          subst hy3
          have hy4 : y4 = y := by
            have := (boX_s (over pb fun _ => Iff.rfl) (pb' := pb2) (cs := fun _ _ _ => True) (fun i b hb => let ⟨cs, _, h2, _⟩ := m2.box i b hb; ⟨cs, trivial, h2⟩) _ _ hy2 ho2).1
            rw [hyy] at this; exact this
          subst hy4
          -- boxes
          have hset : ∀ (ts4 : List DV), subBE norowD pb (fun pb => setBs pb (boN j.bo) vss fun pb => K ts4 pb (roV j.ro y4)) = some q →
              ∃ pb1, K ts4 pb1 (roV j.ro y4) = some q ∧ (∀ i, live pb1 i ↔ live pb i) ∧ Mem V U0 L B' (rowA A' rw2) pb1 (roV j.ro y4) w' := by
            intro ts4 h4
            rw [subBE_eq] at h4
            obtain ⟨pb1, h4, hl, hbs⟩ := setBs_s h4
            have hl : ∀ i, live pb1 i ↔ live pb i := fun i => (hl i).trans subB'_live
            have O := over pb1 hl
            refine ⟨pb1, h4, hl, ?_⟩
            have hlat : Later (Us U0 B A pb rw) (Us U0 B' (rowA A' rw2) pb1 (roV j.ro y4)) w w' := by
              refine ⟨fun b hb hn => mx.same b hb fun h => hn (.inr ((hLx b).1 h)), mx.size, fun b hb hu => ?_⟩
              rcases hUs pb1 hl b hu with g | ⟨kd, i, g⟩
              · exact .inl g
              · rcases (m2.low _ _ _ g).2 with g | g
                · omega
                · exact .inr ((hLx b).1 g)
            have hsub : Sub norowD (env U0 B A pb rw w) (env U0 B' (rowA A' rw2) pb1 (roV j.ro y4) w') :=
              ⟨hlat, fun i hi => ⟨(hl i).2 hi, (hbx i hi).2⟩, fun n e t l hn => (by cases hn), fun n d hn => (by cases hn), fun n p e t l hn _ => (by cases hn; simp only [DV.h]), fun n p d ad hn _ _ => (by cases hn; simp only [DV.h])⟩
            refine ⟨mx.os.trans m.os, mx.tape.trans m.tape, mx.output.trans m.output, Nat.le_trans m.size mx.size, m.same2 hLx mx, m.u0, fun kd i b hb => m.low2 hLx m2 kd i b (hU pb1 hl kd i b hb).1, fun kd i kd' i' b h1 h2 => m2.inj _ _ _ _ _ (hU pb1 hl kd i b h1).1 (hU pb1 hl kd' i' b h2).1, fun i b hb => ?_, fun n e t l hn => ?_, fun n d hn => ?_⟩
            · obtain ⟨b0, g1, g2, g3⟩ := hbs i b hb
              obtain ⟨b00, g4, rfl⟩ := subB'_get.1 g1
              obtain ⟨b', g5, g6, g7⟩ := cleanB_s hcl i b00 g4
              have hBi := (hbx i ⟨b00, g4⟩).2
              rcases g3 with ⟨g8, rfl⟩ | ⟨kk, c, g8, g9, rfl, g10⟩
              · -- as it was
                obtain ⟨cs, k1, k2, k3⟩ := m.box i b00 g4
                have hw : b'.w = false := by
                  rcases g7 with g7 | g7
                  · rw [Nat.zero_add] at g7; exact absurd ((memN_iff _ _).1 g7) g8
                  · exact g7
                obtain ⟨_, _, _, k6⟩ := mx.box i b' g5
                obtain ⟨k7, k8⟩ := k6 hw
                refine ⟨cs, by rw [k8, hBi]; exact k1, hL_subL hsub _ k2, fun hw2 => ?_⟩
                obtain ⟨k9, k10⟩ := k3 hw2
                exact ⟨by rw [hBi]; exact k9, by rw [k8, hBi]; exact k10⟩
              · obtain ⟨us, t, k1, k2⟩ := (boX_s O (pb' := pb2) (cs := fun i us t => w'.heap[B' i]? = some (.cells us.toArray t (0, 0))) (fun i b hb => let ⟨cs, h1, h2, _⟩ := m2.box i b hb; ⟨cs, h1, h2⟩) _ _ hy2 ho2).2 kk i b.cells g8 (by rw [hyy]; exact g9)
                obtain ⟨us', k3, k4, _⟩ := mx.box i b' g5
                rw [k1] at k3
                simp only [Option.some.injEq, Obj.cells.injEq] at k3
                refine ⟨us, by rw [k1, k3.2.1, ← g6, ← g2], k2, fun hf => by rw [g10] at hf; cases hf⟩
            · rcases R.own n e t l hn with g | ⟨rfl, g⟩
              · obtain ⟨xs, k1, k2⟩ := m2.row n e t l g
                refine ⟨xs, ?_, DT.hs_mono O.data k2⟩
                rw [show rowA A' rw2 n = A' n by unfold rowA; rw [g]]; exact k1
              · refine ⟨[], ?_, DT.hs_nil⟩
                rw [show rowA A' rw2 n = (none, 0) by unfold rowA; rcases g with g | g <;> rw [g]]
                exact owns_nil
            · obtain ⟨d', g, _, gh⟩ := R.itr n d hn
              obtain ⟨b, o, k1, k2, k3⟩ := m2.itr n d' g
              exact ⟨b, o, by rw [show rowA A' rw2 n = A' n by unfold rowA; rw [g]]; exact k1, k2, OD.mono O.data (gh _ _ _ k3)⟩
          -- slots
          have hslots : ∃ ts4, subBE norowD pb (fun pb => setBs pb (boN j.bo) vss fun pb => K ts4 pb (roV j.ro y4)) = some q ∧ ∀ pb1, (∀ i, live pb1 i ↔ live pb i) → hL (env U0 B' (rowA A' rw2) pb1 (roV j.ro y4) w') ts4 a'.tmps.toList := by
            have hsl : ∀ pb1, (∀ i, live pb1 i ↔ live pb i) → hL (env U0 B' (rowA A' rw2) pb1 (roV j.ro y4) w') ts3 a'.tmps.toList := by
              intro pb1 hl
              have O := over pb1 hl
              have hlat : Later (Us U0 B A pb rw) (Us U0 B' (rowA A' rw2) pb1 (roV j.ro y4)) w w' := by
                refine ⟨fun b hb hn => mx.same b hb fun h => hn (.inr ((hLx b).1 h)), mx.size, fun b hb hu => ?_⟩
                rcases hUs pb1 hl b hu with g | ⟨kd, i, g⟩
                · exact .inl g
                · rcases (m2.low _ _ _ g).2 with g | g
                  · omega
                  · exact .inr ((hLx b).1 g)
              have hsub : Sub norowD (env U0 B A pb rw w) (env U0 B' (rowA A' rw2) pb1 (roV j.ro y4) w') :=
                ⟨hlat, fun i hi => ⟨(hl i).2 hi, (hbx i hi).2⟩, fun n e t l hn => (by cases hn), fun n d hn => (by cases hn), fun n p e t l hn _ => (by cases hn; simp only [DV.h]), fun n p d ad hn _ _ => (by cases hn; simp only [DV.h])⟩
              have hold := hL_subL hsub ts hts
              refine hj3 _ _ ?_ fun i p v hi hp hv => ?_
              · rw [← hL_len hold]; simp [hso.1]
              · have hm := maskOf_s hi
                rw [Nat.zero_add] at hm
                have hn : i ∉ writes x := fun h => by rw [(memN_iff _ _).2 h] at hm; cases hm
                have hs := hso.2 i hn
                obtain ⟨v', g1, g2⟩ := hL_get hold i p hp
                simp only [Array.getElem?_toList] at g1 hv
                rw [hs, g1] at hv
                cases hv
                exact g2
            exact ⟨_, setsE_eq hd, fun pb1 hl => setsE_h (hsl pb1 hl) (by
              have := (vsX_s (over pb1 hl) _ _ hz (gtVs_h hts2 hvs) ho1).2
              rw [hzz] at this; exact this)⟩
          obtain ⟨ts4, h4, hts4⟩ := hslots
          obtain ⟨pb1, h5, hl, m5⟩ := hset ts4 h4
          exact ⟨_, ts4, pb1, _, m5, hts4 pb1 hl, h5, hl, fun i hi => (hbx i hi).2⟩
        · cases h
      · cases h
    · cases h
  · cases h
end
end Go.Vc

namespace Go.Vc
open Go Go.RowKit
theorem dbV_clr : ∀ {pb : DBs} {i : Nat}, (dbV (clrB pb) i).isSome = (dbV pb i).isSome
  | [], _ => rfl
  | some b :: pb, 0 => rfl
  | none :: pb, 0 => rfl
  | some b :: pb, i + 1 => by simp only [clrB, dbV]; exact dbV_clr
  | none :: pb, i + 1 => by simp only [clrB, dbV]; exact dbV_clr
theorem ownCs_clr {pb : DBs} : ∀ {l : List (Nat × Nat)}, ownCs (clrB pb) l = ownCs pb l
  | [] => rfl
  | (i, o) :: l => by simp only [ownCs]; rw [ownCs_clr, dbV_clr]
theorem ownDS_clr {pb : DBs} : ∀ {l : List DS}, ownDS (clrB pb) l = ownDS pb l
  | [] => rfl
  | d :: l => by
    simp only [ownDS]
    rw [ownDS_clr]
    cases d <;> simp only [dbV_clr, ownCs_clr]
theorem ownBo_clr {pb : DBs} : ∀ {l : List (Nat × List DS)}, ownBo (clrB pb) l = ownBo pb l
  | [] => rfl
  | (i, cs) :: l => by
    simp only [ownBo]
    rw [ownBo_clr, ownDS_clr, dbV_clr]
theorem okJ_clr {j : DJ} {x : Code} {ts : List DV} {pb : DBs} : okJ j x ts (clrB pb) = okJ j x ts pb := by
  unfold okJ; rw [ownDS_clr, ownBo_clr]
/-- how code may end here -/
def endX : Exit → Prop
  | .normal => True
  | .exit _ => True
  | .ret => True
  | _ => False
section
variable {P : Program} {T : List TI} {C : ESs} {O : DTs} {JC JL : List (Nat × DJ)} {β : Type} [EqB β] {q : β}
omit [EqB β] in
theorem Nx.more {V : World} {U0 L : Nat → Prop} {B B1 : Nat → Nat} {pb pb1 : DBs} {a a1 a' : Act} {w' : World} {K : DK β} (hl : ∀ i, live pb i → live pb1 i ∧ B1 i = B i) (hd : a1.defers = a.defers) (h : Nx V U0 L B1 pb1 a1 K q a' w') : Nx V U0 L B pb a K q a' w' :=
  let ⟨B', A', ts', pb', rw', m, h1, h2, h3, h4⟩ := h
  ⟨B', A', ts', pb', rw', m, h1, h2, h3.trans hd, fun i hi => let ⟨g1, g2⟩ := hl i hi; let ⟨g3, g4⟩ := h4 i g1; ⟨g3, g4.trans g2⟩⟩
/-- CODE -/
theorem ev_ok (hT : TableOk P T) (hC : CsOk P C) (hm : P.follows .mixedOrders = true) : ∀ (c : Code) {JC : List (Nat × DJ)} {Q : Exit → DK β} {V : World} {U0 L : Nat → Prop} {B : Nat → Nat} {A : Asg} {ts : List DV} {pb : DBs} {rw : List DR} {a : Act} {w : World},
    ev stdW T C O JC JL c Q ts pb rw = some q → Mem V U0 L B A pb rw w → hL (env U0 B A pb rw w) ts a.tmps.toList → c.wp P (fun e a' w' => endX e ∧ Nx V U0 L B pb a (Q e) q a' w' ∧ SameOut (writes c) a a') a w
  | .skip, JC, Q, V, U0, L, B, A, ts, pb, rw, a, w, h, m, hts => by
    simp only [ev] at h
    exact wp_skip ⟨trivial, ⟨B, A, ts, pb, rw, m, hts, h, rfl, fun i hi => ⟨hi, rfl⟩⟩, SameOut.refl _ _⟩
  | .label _, JC, Q, V, U0, L, B, A, ts, pb, rw, a, w, h, m, hts => by
    simp only [ev] at h
    exact wp_label ⟨trivial, ⟨B, A, ts, pb, rw, m, hts, h, rfl, fun i hi => ⟨hi, rfl⟩⟩, SameOut.refl _ _⟩
  | .exit id, JC, Q, V, U0, L, B, A, ts, pb, rw, a, w, h, m, hts => by
    simp only [ev] at h
    exact wp_exit ⟨trivial, ⟨B, A, ts, pb, rw, m, hts, h, rfl, fun i hi => ⟨hi, rfl⟩⟩, SameOut.refl _ _⟩
  | .ret, JC, Q, V, U0, L, B, A, ts, pb, rw, a, w, h, m, hts => by
    simp only [ev] at h
    exact wp_ret ⟨trivial, ⟨B, A, ts, pb, rw, m, hts, h, rfl, fun i hi => ⟨hi, rfl⟩⟩, SameOut.refl _ _⟩
  | .seq x y, JC, Q, V, U0, L, B, A, ts, pb, rw, a, w, h, m, hts => by
    have hwx : ∀ i ∈ writes x, i ∈ writes (.seq x y) := fun i hi => by simp [writes, hi]
    have hwy : ∀ i ∈ writes y, i ∈ writes (.seq x y) := fun i hi => by simp [writes, hi]
    unfold ev at h
    split at h
    · refine wp_seq (wp_mono (ev_ok hT hC hm x h m hts) fun e a1 w1 hq => ?_)
      obtain ⟨he, hn, hso⟩ := hq
      cases e with
      | normal =>
        obtain ⟨B1, A1, ts1, pb1, rw1, m1, hts1, h1, hd, hl⟩ := hn
        refine wp_mono (ev_ok hT hC hm y h1 m1 hts1) fun e a2 w2 hq => ?_
        exact ⟨hq.1, hq.2.1.more hl hd, (hso.mono hwx).trans (hq.2.2.mono hwy)⟩
      | exit i => exact ⟨he, hn, hso.mono hwx⟩
      | ret => exact ⟨he, hn, hso.mono hwx⟩
      | _ => exact he.elim
    · rename_i j hj
      split at h
      · rename_i hok
        obtain ⟨ma, sa⟩ := m.anchor
        have h : ev stdW T C O JC JL x (fun e ts' pb' rw' => match e with
          | .normal => outD j pb ts' pb' rw' fun z => headD j x ts pb z fun ts1 pb1 rw1 => ev stdW T C O JC JL y Q ts1 pb1 rw1
          | .exit i => Q (.exit i) ts' (orW pb pb') rw'
          | .ret => Q .ret ts' (orW pb pb') rw'
          | _ => none) ts (clrB pb) rw = some q := h
        refine wp_seq (wp_mono (ev_ok hT hC hm x h ma (noSub sa hts)) fun e a1 w1 hq => ?_)
        obtain ⟨he, ⟨B1, A1, ts1, pb1, rw1, mx, hx, h1, hd, hl⟩, hso⟩ := hq
        have hl : ∀ i, live pb i → live pb1 i ∧ B1 i = B i := fun i hi => hl i (clrB_live.2 hi)
        have out : ∀ {K : DK β}, K ts1 (orW pb pb1) rw1 = some q → Nx V U0 L B pb a K q a1 w1 := by
          intro K hK
          obtain ⟨mo, so⟩ := m.out2 (fun _ => Iff.rfl) mx fun i hi => (hl i hi).2
          exact ⟨B1, A1, ts1, _, rw1, mo, noSub so hx, hK, hd, fun i hi => ⟨orW_live.2 (hl i hi).1, (hl i hi).2⟩⟩
        cases e with
        | normal =>
          obtain ⟨z, hk, hh⟩ := join_ok m hts hok (fun _ => Iff.rfl) mx hx hso hl h1
          obtain ⟨A2, ts2, pb2, rw2, m2, hts2, h2, g1, g2⟩ := hh hk
          refine wp_mono (ev_ok hT hC hm y h2 m2 hts2) fun e a2 w2 hq => ?_
          exact ⟨hq.1, hq.2.1.more (fun i hi => ⟨(g1 i).2 hi, g2 i hi⟩) hd, (hso.mono hwx).trans (hq.2.2.mono hwy)⟩
        | exit i => exact ⟨he, out h1, hso.mono hwx⟩
        | ret => exact ⟨he, out h1, hso.mono hwx⟩
        | _ => exact he.elim
      · cases h
  | .cond c x y, JC, Q, V, U0, L, B, A, ts, pb, rw, a, w, h, m, hts => by
    have hwx : ∀ i ∈ writes x, i ∈ writes (.cond c x y) := fun i hi => by simp [writes, hi]
    have hwy : ∀ i ∈ writes y, i ∈ writes (.cond c x y) := fun i hi => by simp [writes, hi]
    unfold ev at h
    split at h
    · rename_i hc
      have hc := opV_h hc hts
      simp only [DV.h] at hc
      exact wp_cond_true hc (wp_mono (ev_ok hT hC hm x h m hts) fun e a1 w1 hq => ⟨hq.1, hq.2.1, hq.2.2.mono hwx⟩)
    · rename_i hc
      have hc := opV_h hc hts
      simp only [DV.h] at hc
      exact wp_cond_false hc (wp_mono (ev_ok hT hC hm y h m hts) fun e a1 w1 hq => ⟨hq.1, hq.2.1, hq.2.2.mono hwy⟩)
    · rename_i b hc
      have hc := opV_h hc hts
      simp only [DV.h] at hc
      rcases cnd_s h with ⟨rfl, h⟩ | ⟨rfl, h⟩
      · exact wp_cond_true hc (wp_mono (ev_ok hT hC hm x h m hts) fun e a1 w1 hq => ⟨hq.1, hq.2.1, hq.2.2.mono hwx⟩)
      · exact wp_cond_false hc (wp_mono (ev_ok hT hC hm y h m hts) fun e a1 w1 hq => ⟨hq.1, hq.2.1, hq.2.2.mono hwy⟩)
    · cases h
  | .block id x, JC, Q, V, U0, L, B, A, ts, pb, rw, a, w, h, m, hts => by
    simp only [ev] at h
    refine wp_block (wp_mono (ev_ok hT hC hm x h m hts) fun e a1 w1 hq => ?_)
    obtain ⟨he, hn, hso⟩ := hq
    cases e with
    | normal => exact ⟨he, hn, hso⟩
    | ret => exact ⟨he, hn, hso⟩
    | exit i =>
      unfold Exit.inBlock
      obtain ⟨B1, A1, ts1, pb1, rw1, m1, hts1, h1, hd, hl⟩ := hn
      by_cases hi : i = id
      · subst hi
        simp only [if_true]
        simp only [show Nat.beq i i = true from Nat.beq_refl i] at h1
        exact ⟨trivial, ⟨B1, A1, ts1, pb1, rw1, m1, hts1, h1, hd, hl⟩, hso⟩
      · simp only [hi, if_false]
        simp only [show Nat.beq i id = false from by cases hb : Nat.beq i id with | false => rfl | true => exact absurd (Nat.eq_of_beq_eq_true hb) hi] at h1
        exact ⟨trivial, ⟨B1, A1, ts1, pb1, rw1, m1, hts1, h1, hd, hl⟩, hso⟩
    | _ => exact he.elim
  | .scope x, JC, Q, V, U0, L, B, A, ts, pb, rw, a, w, h, m, hts => by
    simp only [ev] at h
    refine wp_scope_straight (wp_mono (ev_ok hT hC hm x h m hts) fun e a1 w1 hq => ?_)
    cases e with
    | normal => exact hq
    | ret => exact hq
    | exit i => exact hq
    | _ => exact hq.1.elim
  | .region id ops draw, JC, Q, V, U0, L, B, A, ts, pb, rw, a, w, h, m, hts => by
    unfold ev at h
    cases draw with
    | false => exact wp_region_list (evList_ok (al := fun _ => true) hT (pickC_ok hC) ops.toList h m hts fun a' w' hn hso => ⟨trivial, hn.nx, hso⟩)
    | true => exact drawD_ok hT (pickC_ok hC) hm h m hts fun a' w' hn hso => ⟨trivial, hn, hso⟩
  | .loop x, JC, Q, V, U0, L, B, A, ts, pb, rw, a, w, h, m, hts => by
    unfold ev at h
    split at h
    · generalize 5 = N at h
      refine wp_loop_ghost (fun n a1 w1 => ∃ B1 A1 ts1 pb1 rw1, unr (fun n again ts pb rw => ev stdW T C O (markK JC n) JL x (fun e ts pb rw => match e with
          | .normal => again ts pb rw
          | .exit i => Q (.exit i) ts pb rw
          | .ret => Q .ret ts pb rw
          | _ => none) ts pb rw) n ts1 pb1 rw1 = some q ∧ Mem V U0 L B1 A1 pb1 rw1 w1 ∧ hL (env U0 B1 A1 pb1 rw1 w1) ts1 a1.tmps.toList ∧ SameOut (writes x) a a1 ∧ a1.defers = a.defers ∧ ∀ i, live pb i → live pb1 i ∧ B1 i = B i) N ⟨B, A, ts, pb, rw, h, m, hts, SameOut.refl _ _, rfl, fun i hi => ⟨hi, rfl⟩⟩ ?_
      rintro n a1 w1 ⟨B1, A1, ts1, pb1, rw1, hn, m1, hts1, hso, hd, hl⟩
      cases n with
      | zero => cases hn
      | succ n =>
        simp only [unr] at hn
        refine wp_mono (ev_ok hT hC hm x hn m1 hts1) fun e a2 w2 hq => ?_
        obtain ⟨he, hx, hso2⟩ := hq
        cases e with
        | normal =>
          obtain ⟨B2, A2, ts2, pb2, rw2, m2, hts2, h2, hd2, hl2⟩ := hx
          exact ⟨n, Nat.lt_succ_self n, B2, A2, ts2, pb2, rw2, h2, m2, hts2, hso.trans hso2, hd2.trans hd, fun i hi => let ⟨g1, g2⟩ := hl i hi; let ⟨g3, g4⟩ := hl2 i g1; ⟨g3, g4.trans g2⟩⟩
        | exit i => exact ⟨he, hx.more hl hd, hso.trans hso2⟩
        | ret => exact ⟨he, hx.more hl hd, hso.trans hso2⟩
        | _ => exact he.elim
    · rename_i j hj
      split at h
      · rename_i hok
        obtain ⟨ma, sa⟩ := m.anchor
        have hok1 : okJ j x ts (clrB pb) = true := by rw [okJ_clr]; exact hok
        have hLx : ∀ b, Ow B A pb rw b ↔ Ow B A (clrB pb) rw b := fun b => ⟨fun ⟨k, i, h⟩ => ⟨k, i, (blk_live fun i => clrB_live).2 h⟩, fun ⟨k, i, h⟩ => ⟨k, i, (blk_live fun i => clrB_live).1 h⟩⟩
        have htsa := noSub sa hts
        rw [← outD_clr] at h
        obtain ⟨z0, h, hh0⟩ := join_ok ma htsa hok1 hLx ma htsa (SameOut.refl _ _) (fun i hi => ⟨hi, rfl⟩) h
        have h : loopF FU (fun z again => headD j x ts (clrB pb) z fun ts1 pb1 rw1 =>
          ev stdW T C O JC JL x (fun e ts' pb' rw' => match e with
            | .normal => outD j pb ts' pb' rw' again
            | .exit i => Q (.exit i) ts' (orW pb pb') rw'
            | .ret => Q .ret ts' (orW pb pb') rw'
            | _ => none) ts1 pb1 rw1) z0 = some q := h
        generalize FU = N at h
        refine wp_loop_ghost (fun n a1 w1 => ∃ z B1, loopF n (fun z again => headD j x ts (clrB pb) z fun ts1 pb1 rw1 =>
          ev stdW T C O JC JL x (fun e ts' pb' rw' => match e with
            | .normal => outD j pb ts' pb' rw' again
            | .exit i => Q (.exit i) ts' (orW pb pb') rw'
            | .ret => Q .ret ts' (orW pb pb') rw'
            | _ => none) ts1 pb1 rw1) z = some q ∧ SameOut (writes x) a a1 ∧ a1.defers = a.defers ∧
          ∀ {K : DK β}, headD j x ts (clrB pb) z K = some q → ∃ A2 ts1 pb1 rw1, Mem w U0 (Ow B A pb rw) B1 A2 pb1 rw1 w1 ∧ hL (env U0 B1 A2 pb1 rw1 w1) ts1 a1.tmps.toList ∧ K ts1 pb1 rw1 = some q ∧ (∀ i, live pb1 i ↔ live (clrB pb) i) ∧ ∀ i, live (clrB pb) i → B1 i = B i) N ⟨z0, B, h, SameOut.refl _ _, rfl, fun h => hh0 h⟩ ?_
        rintro n a1 w1 ⟨z, B1, hn, hso, hd, hh⟩
        cases n with
        | zero => cases hn
        | succ n =>
          simp only [loopF] at hn
          obtain ⟨A2, ts1, pb1, rw1, m1, hts1, h1, hl1, hB1⟩ := hh hn
          refine wp_mono (ev_ok hT hC hm x h1 m1 hts1) fun e a2 w2 hq => ?_
          obtain ⟨he, ⟨B2, A3, ts2, pb2, rw2, mx, hx, h2, hd2, hl2⟩, hso2⟩ := hq
          have hl : ∀ i, live (clrB pb) i → live pb2 i ∧ B2 i = B i := fun i hi => let ⟨g1, g2⟩ := hl2 i ((hl1 i).2 hi); ⟨g1, g2.trans (hB1 i hi)⟩
          have hl' : ∀ i, live pb i → live pb2 i ∧ B2 i = B i := fun i hi => hl i (clrB_live.2 hi)
          have out : ∀ {K : DK β}, K ts2 (orW pb pb2) rw2 = some q → Nx V U0 L B pb a K q a2 w2 := by
            intro K hK
            obtain ⟨mo, so⟩ := m.out2 (fun _ => Iff.rfl) mx fun i hi => (hl' i hi).2
            exact ⟨B2, A3, ts2, _, rw2, mo, noSub so hx, hK, hd2.trans hd, fun i hi => ⟨orW_live.2 (hl' i hi).1, (hl' i hi).2⟩⟩
          cases e with
          | normal =>
            have h2 : outD j pb ts2 pb2 rw2 _ = some q := h2
            rw [← outD_clr] at h2
            obtain ⟨z2, hk, hh2⟩ := join_ok ma htsa hok1 hLx mx hx (hso.trans hso2) hl h2
            exact ⟨n, Nat.lt_succ_self n, z2, B2, hk, hso.trans hso2, hd2.trans hd, fun h => hh2 h⟩
          | exit i => exact ⟨he, out h2, hso.trans hso2⟩
          | ret => exact ⟨he, out h2, hso.trans hso2⟩
          | _ => exact he.elim
      · cases h
  | .goto _, JC, Q, V, U0, L, B, A, ts, pb, rw, a, w, h, m, hts => by simp only [ev] at h; cases h
end
end Go.Vc

namespace Go.Vc
open Go Go.RowKit
/-! ### Functions -/
section
variable {β : Type} {q : β}
mutual
theorem QT.x_s {am : List (Nat × Nat)} {E : Env} : (Q : QT) → (p : DV) → (m : MS) → (rw0 : List DR) → (y : Q.den) → (mF : MS) → Q.x am p m = some (y, mF) → MI E m rw0 →
    MI E mF (Q.mk y rw0).2 ∧ (∃ a, mF.rs = m.rs ++ a) ∧ ∀ E0 v rsF, (∃ a, rsF = mF.rs ++ a) → TrI am rsF E E0 → p.h E v → (Q.mk y rw0).1.h E0 v
  | .v t, p, m, rw0, y, mF, h, hm => by
    simp only [QT.x] at h
    split at h
    · rename_i x hx
      simp only [Option.some.injEq, Prod.mk.injEq] at h
      obtain ⟨rfl, rfl⟩ := h
      exact ⟨hm, ⟨[], by simp⟩, fun E0 v rsF _ s hp => t.val_h (DT.hv_mono s.sl (DT.ofV_h hx hp))⟩
    · cases h
  | .own e t, p, m, rw0, y, mF, h, hm => by
    simp only [QT.x] at h
    split at h
    · rename_i j
      split at h
      · rename_i e' t' xs hj
        rw [drV_spec] at hj
        split at h
        · rename_i hh he hs
          simp only [Option.some.injEq, Prod.mk.injEq] at h
          obtain ⟨rfl, rfl⟩ := h
          have he := Nat.eq_of_beq_eq_true he
          subst he hh
          obtain ⟨hm', hE⟩ := hm.take hj
          refine ⟨hm', ⟨_, rfl⟩, fun E0 v rsF ⟨a, ha⟩ s hp => ?_⟩
          have hn : rsF[rw0.length]? = some (some j) := by rw [ha]; simp [← hm.len]
          obtain ⟨g1, g2⟩ := s.row _ _ _ _ _ hn hE
          simp only [DV.h] at hp
          obtain ⟨e2, t2, l2, hj2, rfl⟩ := hp
          rw [hE] at hj2; simp only [Option.some.injEq, DR.own.injEq] at hj2
          obtain ⟨rfl, rfl, hl2⟩ := hj2
          cases hl2
          simp only [QT.mk, DV.h]
          exact ⟨_, _, _, g1, by rw [g2]⟩
        · cases h
      · cases h
    · simp only [Option.some.injEq, Prod.mk.injEq] at h
      obtain ⟨rfl, rfl⟩ := h
      refine ⟨hm.emp e t, ⟨_, rfl⟩, fun E0 v rsF ⟨a, ha⟩ s hp => ?_⟩
      have hn : rsF[rw0.length]? = some none := by rw [ha]; simp [← hm.len]
      obtain ⟨⟨e1, t1, g1⟩, g2⟩ := s.nil _ hn
      simp only [DV.h] at hp
      subst hp
      simp only [QT.mk, DV.h]
      exact ⟨_, _, _, g1, by rw [g2]; rfl⟩
    · cases h
  | .ptr n, p, m, rw0, y, mF, h, hm => by
    simp only [QT.x] at h
    split at h
    · rename_i i o
      split at h
      · rename_i i' hl
        split at h
        · rename_i hb
          have hb := Nat.eq_of_beq_eq_true hb
          subst hb
          simp only [Option.some.injEq, Prod.mk.injEq] at h
          obtain ⟨_, rfl⟩ := h
          refine ⟨hm, ⟨[], by simp⟩, fun E0 v rsF _ s hp => ?_⟩
          simp only [DV.h] at hp
          obtain ⟨g1, rfl⟩ := hp
          obtain ⟨g2, g3⟩ := s.bx _ _ hl g1
          simp only [QT.mk, DV.h]
          exact ⟨g2, by rw [g3]⟩
        · cases h
      · cases h
    · cases h
  | .nil n, p, m, rw0, y, mF, h, hm => by
    simp only [QT.x] at h
    split at h
    · rename_i z
      split at h
      · rename_i hb
        simp only [Option.some.injEq, Prod.mk.injEq] at h
        obtain ⟨_, rfl⟩ := h
        refine ⟨hm, ⟨[], by simp⟩, fun E0 v rsF _ s hp => ?_⟩
        simp only [DV.h] at hp
        subst hp
        simp only [QT.mk, DV.h]
        exact NK.is_s hb
      · cases h
    · cases h
  | .unit, p, m, rw0, y, mF, h, hm => by
    simp only [QT.x] at h
    split at h
    · simp only [Option.some.injEq, Prod.mk.injEq] at h
      obtain ⟨_, rfl⟩ := h
      refine ⟨hm, ⟨[], by simp⟩, fun E0 v rsF _ s hp => ?_⟩
      simp only [DV.h, hL] at hp
      obtain ⟨vs, rfl, hp⟩ := hp
      simp only [QT.mk, DV.h, hL]
      exact ⟨vs, rfl, hp⟩
    · cases h
  | .pair a b, p, m, rw0, y, mF, h, hm => by
    simp only [QT.x] at h
    split at h
    · rename_i p ps
      split at h
      · rename_i x m1 hx
        split at h
        · rename_i y2 m2 hy
          simp only [Option.some.injEq, Prod.mk.injEq] at h
          obtain ⟨rfl, rfl⟩ := h
          obtain ⟨h1, ⟨a1, h2⟩, h3⟩ := QT.x_s a p m rw0 x m1 hx hm
          obtain ⟨k1, ⟨a2, k2⟩, k3⟩ := QT.xs_s b ps m1 _ y2 m2 hy h1
          refine ⟨k1, ⟨a1 ++ a2, by rw [k2, h2, List.append_assoc]⟩, fun E0 v rsF ⟨c, hc⟩ s hp => ?_⟩
          simp only [DV.h, hL] at hp
          obtain ⟨vs, rfl, u, us, hv, hp1, hp2⟩ := hp
          simp only [QT.mk, DV.h, hL]
          exact ⟨vs, rfl, u, us, hv, h3 E0 u rsF ⟨a2 ++ c, by rw [hc, k2, List.append_assoc]⟩ s hp1, k3 E0 us rsF ⟨c, hc⟩ s hp2⟩
        · cases h
      · cases h
    · cases h
theorem QT.xs_s {am : List (Nat × Nat)} {E : Env} : (Q : QT) → (ps : List DV) → (m : MS) → (rw0 : List DR) → (y : Q.den) → (mF : MS) → Q.xs am ps m = some (y, mF) → MI E m rw0 →
    MI E mF (Q.mks y rw0).2 ∧ (∃ a, mF.rs = m.rs ++ a) ∧ ∀ E0 vs rsF, (∃ a, rsF = mF.rs ++ a) → TrI am rsF E E0 → hL E ps vs → hL E0 (Q.mks y rw0).1 vs
  | .unit, ps, m, rw0, y, mF, h, hm => by
    simp only [QT.xs] at h
    split at h
    · simp only [Option.some.injEq, Prod.mk.injEq] at h
      obtain ⟨_, rfl⟩ := h
      exact ⟨hm, ⟨[], by simp⟩, fun E0 vs rsF _ s hp => by simpa only [QT.mks, hL] using hp⟩
    · cases h
  | .pair a b, ps, m, rw0, y, mF, h, hm => by
    simp only [QT.xs] at h
    split at h
    · rename_i p ps
      split at h
      · rename_i x m1 hx
        split at h
        · rename_i y2 m2 hy
          simp only [Option.some.injEq, Prod.mk.injEq] at h
          obtain ⟨rfl, rfl⟩ := h
          obtain ⟨h1, ⟨a1, h2⟩, h3⟩ := QT.x_s a p m rw0 x m1 hx hm
          obtain ⟨k1, ⟨a2, k2⟩, k3⟩ := QT.xs_s b ps m1 _ y2 m2 hy h1
          refine ⟨k1, ⟨a1 ++ a2, by rw [k2, h2, List.append_assoc]⟩, fun E0 v rsF ⟨c, hc⟩ s hp => ?_⟩
          simp only [hL] at hp
          obtain ⟨u, us, hv, hp1, hp2⟩ := hp
          simp only [QT.mks, hL]
          exact ⟨u, us, hv, h3 E0 u rsF ⟨a2 ++ c, by rw [hc, k2, List.append_assoc]⟩ s hp1, k3 E0 us rsF ⟨c, hc⟩ s hp2⟩
        · cases h
      · cases h
    · cases h
  | .v _, ps, m, rw0, y, mF, h, _ => by simp [QT.xs] at h
  | .own _ _, ps, m, rw0, y, mF, h, _ => by simp [QT.xs] at h
  | .ptr _, ps, m, rw0, y, mF, h, _ => by simp [QT.xs] at h
  | .nil _, ps, m, rw0, y, mF, h, _ => by simp [QT.xs] at h
end
theorem selfA_s {am : List (Nat × Nat)} : ∀ {n : Nat}, selfA am n = true → ∀ {k : Nat}, k < n → lkA am k = some k
  | 0, _, k, hk => by omega
  | n + 1, h, k, hk => by
    simp only [selfA, Bool.and_eq_true] at h
    by_cases hkn : k = n
    · subst hkn
      have h1 := h.1
      split at h1
      · rename_i i hi; rw [hi, Nat.eq_of_beq_eq_true h1]
      · cases h1
    · exact selfA_s h.2 (by omega)
end
end Go.Vc

namespace Go.Vc
open Go Go.RowKit
/-! ### What a function leaves -/
theorem bkM_len : ∀ (l : List BK) (r : DT) (z : (bkT l r).den) (rw : List DR), (bkM l r z rw).1.length = l.length
  | [], _, _, _ => rfl
  | Bk :: l, r, z, rw => by simp only [bkM, List.length_cons]; rw [bkM_len l r]
section
variable {V : World} {U0 L : Nat → Prop} {B : Nat → Nat} {A : Asg} {pb : DBs} {rw : List DR} {w : World}
theorem lend_blk {σ : Nat → Option Nat} {rs : List (Option Nat)} {pb0 : DBs} {rw0 : List DR} (hb : ∀ (k : Nat) (b0 : DB), pb0[k]? = some (some b0) → ∃ i b, σ k = some i ∧ pb[i]? = some (some b) ∧ b0.ty = b.ty ∧ b0.w = true)
    (hr : ∀ (n : Nat) (r : DR), rw0[n]? = some r → (∃ j e t l, rs[n]? = some (some j) ∧ rw[j]? = some r ∧ r = .own e t l) ∨ (rs[n]? = some none ∧ ∃ e t, r = .own e t [])) :
    (∀ n b, blk (lB B σ) (lA A rs) pb0 rw0 true n b → ∃ j, rs[n]? = some (some j) ∧ blk B A pb rw true j b) ∧ (∀ k b, blk (lB B σ) (lA A rs) pb0 rw0 false k b → ∃ i, σ k = some i ∧ blk B A pb rw false i b) := by
  constructor
  · rintro n b ⟨r, ad, g1, g2, g3, g4⟩
    rcases hr n r g1 with ⟨j, e, t, l, k1, k2, k3⟩ | ⟨k1, _⟩
    · refine ⟨j, k1, r, ad, k2, g2, ?_, g4⟩
      simpa only [lA, k1] using g3
    · simp only [lA, k1] at g3; cases g3
  · rintro k b ⟨⟨b0, g1⟩, g2⟩
    obtain ⟨i, b1, k1, k2, _⟩ := hb k b0 g1
    exact ⟨i, k1, ⟨b1, k2⟩, by simpa only [lB, k1, Option.getD_some] using g2⟩
theorem Mem.leave (m : Mem V U0 L B A pb rw w) {σ : Nat → Option Nat} {rs : List (Option Nat)} {pb0 : DBs} {rw0 : List DR}
    (hb : ∀ (k : Nat) (b0 : DB), pb0[k]? = some (some b0) → ∃ i b, σ k = some i ∧ pb[i]? = some (some b) ∧ b0.ty = b.ty ∧ b0.w = true)
    (hc : ∀ (k : Nat) (b0 : DB) (i : Nat) (b : DB), pb0[k]? = some (some b0) → σ k = some i → pb[i]? = some (some b) → ∀ vs, hL (env U0 B A pb rw w) b.cells vs → hL (env U0 (lB B σ) (lA A rs) pb0 rw0 w) b0.cells vs)
    (hσ : ∀ (k k' i : Nat), σ k = some i → σ k' = some i → k = k')
    (hr : ∀ (n : Nat) (r : DR), rw0[n]? = some r → (∃ j e t l, rs[n]? = some (some j) ∧ rw[j]? = some r ∧ r = .own e t l) ∨ (rs[n]? = some none ∧ ∃ e t, r = .own e t []))
    (hρ : ∀ (n n' j : Nat), rs[n]? = some (some j) → rs[n']? = some (some j) → n = n') : Mem V U0 L (lB B σ) (lA A rs) pb0 rw0 w := by
  obtain ⟨h1, h2⟩ := lend_blk (B := B) (A := A) hb hr
  have h3 : ∀ k i b, blk (lB B σ) (lA A rs) pb0 rw0 k i b → ∃ i', blk B A pb rw k i' b := by
    intro k i b h
    cases k with
    | true => obtain ⟨j, _, h⟩ := h1 i b h; exact ⟨j, h⟩
    | false => obtain ⟨j, _, h⟩ := h2 i b h; exact ⟨j, h⟩
  have hU : ∀ b, Us U0 (lB B σ) (lA A rs) pb0 rw0 b → Us U0 B A pb rw b := by
    rintro b (h | ⟨k, i, h⟩)
    · exact .inl h
    · obtain ⟨i', h⟩ := h3 k i b h; exact .inr ⟨k, i', h⟩
  refine ⟨m.os, m.tape, m.output, m.size, m.same, m.u0, fun k i b h => ?_, fun k i k' i' b h h' => ?_, fun k b0 h => ?_, fun n e t l h => ?_, fun n d h => ?_⟩
  · obtain ⟨i', g⟩ := h3 k i b h; exact m.low k i' b g
  · cases k with
    | true =>
      obtain ⟨j, g1, g2⟩ := h1 i b h
      cases k' with
      | true => obtain ⟨j', g3, g4⟩ := h1 i' b h'; have := (m.inj _ _ _ _ _ g2 g4).2; subst this; exact ⟨rfl, hρ _ _ _ g1 g3⟩
      | false => obtain ⟨j', g3, g4⟩ := h2 i' b h'; have := (m.inj _ _ _ _ _ g2 g4).1; cases this
    | false =>
      obtain ⟨j, g1, g2⟩ := h2 i b h
      cases k' with
      | true => obtain ⟨j', g3, g4⟩ := h1 i' b h'; have := (m.inj _ _ _ _ _ g2 g4).1; cases this
      | false => obtain ⟨j', g3, g4⟩ := h2 i' b h'; have := (m.inj _ _ _ _ _ g2 g4).2; subst this; exact ⟨rfl, hσ _ _ _ g1 g3⟩
  · obtain ⟨i, b, g1, g2, g3, g4⟩ := hb k b0 h
    obtain ⟨cs, k1, k2, _⟩ := m.box i b g2
    exact ⟨cs, by simp only [lB, g1, Option.getD_some, g3]; exact k1, hc k b0 i b h g1 g2 cs k2, fun hw => by rw [g4] at hw; cases hw⟩
  · rcases hr n _ h with ⟨j, e', t', l', k1, k2, k3⟩ | ⟨k1, e', t', k3⟩
    · obtain ⟨xs, g1, g2⟩ := m.row j e t l k2
      refine ⟨xs, by simp only [lA, k1]; exact g1, DT.hs_mono ⟨fun _ _ _ => rfl, Nat.le_refl _, fun b _ h => hU b h⟩ g2⟩
    · simp only [DR.own.injEq] at k3
      obtain ⟨rfl, rfl, k3⟩ := k3
      cases k3
      exact ⟨[], by simp only [lA, k1]; exact World.ownsRow_nil w 0 e t.size, DT.hs_nil⟩
  · rcases hr n _ h with ⟨j, e', t', l', k1, k2, k3⟩ | ⟨k1, e', t', k3⟩ <;> cases k3
/-- THE END -/
theorem fin_ok (m : Mem V U0 L B A pb rw w) {El : List BK} {Q : QT} {am : List (Nat × Nat)} {e : (bkT El .unit).den} {y : Q.den} {p : DV} {v : Value} {ms ms' : MS} (hp : p.h (env U0 B A pb rw w) v)
    (hnd : nodupN (sndN am) = true) (hkl : keysLt am El.length = true) (hX : bkX am pb El 0 .unit ⟨[], rw⟩ (fun m => some ((), m)) = some (e, ms)) (hQ : Q.x am p ms = some (y, ms')) :
    ∃ A', Mem V U0 L (lB B (lkA am)) A' (bkM El .unit e []).1 (Q.mk y (bkM El .unit e []).2.2).2 w ∧ (Q.mk y (bkM El .unit e []).2.2).1.h (env U0 (lB B (lkA am)) A' (bkM El .unit e []).1 (Q.mk y (bkM El .unit e []).2.2).2 w) v ∧
      (bkM El .unit e []).1.length = El.length ∧ ∀ k, k < El.length → live (bkM El .unit e []).1 k := by
  obtain ⟨z0, m1, rw1, g1, g2, g3, ⟨a1, g4⟩, ⟨b1, g5⟩, g6, g7, g8⟩ := bkX_s (am := am) (E := env U0 B A pb rw w) El 0 .unit ⟨[], rw⟩ _ [] e ms hX (MI.nil (env U0 B A pb rw w))
  simp only [Option.some.injEq, Prod.mk.injEq] at g1
  obtain ⟨_, rfl⟩ := g1
  obtain ⟨k1, ⟨a2, k2⟩, k3⟩ := QT.x_s (am := am) (E := env U0 B A pb rw w) Q p m1 rw1 y ms' hQ g3
  have e1 : (bkM El .unit e []).2.2 = rw1 := by rw [g2]
  rw [e1]
  generalize hpb0 : (bkM El .unit e []).1 = pb0 at g6 g7 g8
  generalize hrw2 : (Q.mk y rw1).2 = rw2 at k1
  have hbw : ∀ (k : Nat) (b0 : DB), pb0[k]? = some (some b0) → ∃ i b, lkA am k = some i ∧ pb[i]? = some (some b) ∧ b0.ty = b.ty ∧ b0.w = true := fun k b0 h => by
    obtain ⟨i, b, h1, h2, h3, h4, _⟩ := g7 k b0 h
    rw [Nat.zero_add] at h1
    exact ⟨i, b, h1, h2, h3, h4⟩
  have hr := k1.row
  obtain ⟨h1, h2⟩ := lend_blk (B := B) (A := A) hbw hr
  have tri : TrI am ms'.rs (env U0 B A pb rw w) (env U0 (lB B (lkA am)) (lA A ms'.rs) pb0 rw2 w) := by
    refine ⟨⟨fun _ _ _ => rfl, Nat.le_refl _, fun b _ hu => ?_⟩, fun k i hk hl => ?_, fun n j e t l hn hj => ?_, fun n hn => ?_⟩
    · rcases hu with hu | ⟨k, i, hu⟩
      · exact .inl hu
      · cases k with
        | true => obtain ⟨j, _, h⟩ := h1 i b hu; exact .inr ⟨_, j, h⟩
        | false => obtain ⟨j, _, h⟩ := h2 i b hu; exact .inr ⟨_, j, h⟩
    · obtain ⟨b0, hb0⟩ := g8 k (keysLt_s hkl hk)
      refine ⟨⟨b0, hb0⟩, ?_⟩
      show lB B (lkA am) k = B i
      simp only [lB, hk, Option.getD_some]
    · obtain ⟨n', hn'⟩ : ∃ r, rw2[n]? = some r := ⟨_, List.getElem?_eq_getElem (by rw [← k1.len]; exact (List.getElem?_eq_some_iff.1 hn).1)⟩
      rcases hr n n' hn' with ⟨j', e', t', l', c1, c2, c3⟩ | ⟨c1, _⟩
      · rw [hn] at c1; simp only [Option.some.injEq] at c1; subst c1
        rw [hj] at c2; simp only [Option.some.injEq] at c2
        refine ⟨by rw [c2]; exact hn', ?_⟩
        show lA A ms'.rs n = A j
        simp only [lA, hn]
      · rw [hn] at c1; cases c1
    · obtain ⟨n', hn'⟩ : ∃ r, rw2[n]? = some r := ⟨_, List.getElem?_eq_getElem (by rw [← k1.len]; exact (List.getElem?_eq_some_iff.1 hn).1)⟩
      rcases hr n n' hn' with ⟨j', e', t', l', c1, c2, c3⟩ | ⟨_, e, t, c1⟩
      · rw [hn] at c1; cases c1
      · refine ⟨⟨e, t, by rw [← c1]; exact hn'⟩, ?_⟩
        show lA A ms'.rs n = (none, 0)
        simp only [lA, hn]
  refine ⟨lA A ms'.rs, m.leave hbw (fun k b0 i b c1 c2 c3 us hu => ?_) (fun k k' i h h' => lkA_inj hnd h h') hr k1.inj, k3 _ v ms'.rs ⟨[], by simp⟩ tri hp, g6, g8⟩
  obtain ⟨i', b', d1, d2, _, _, d5⟩ := g7 k b0 c1
  rw [Nat.zero_add, c2] at d1; simp only [Option.some.injEq] at d1; subst d1
  have d2 : pb[i]? = some (some b') := d2
  rw [c3] at d2; simp only [Option.some.injEq] at d2; subst d2
  have pre : ∀ (n : Nat) (x : Option Nat), m1.rs[n]? = some x → ms'.rs[n]? = some x := fun n x hn => by
    rw [k2, List.getElem?_append_left (List.getElem?_eq_some_iff.1 hn).1]; exact hn
  exact d5 _ ⟨[], by simp⟩ ⟨tri.sl, tri.bx, fun n j e t l hn hj => tri.row n j e t l (pre n _ hn) hj, fun n hn => tri.nil n (pre n _ hn)⟩ us hu
end
/-! ### Results, and the first slots -/
section
variable {P : Program} {T : List TI} {V : World} {U0 L : Nat → Prop} {B : Nat → Nat} {A : Asg} {ts : List DV} {pb : DBs} {rw : List DR} {a : Act} {w : World} {β : Type} {q : β} {C : ESs} {O : DTs} {JC JL : List (Nat × DJ)}
def resOne (tmps : Array Value) : ResultVar → Sem Value
  | .tmp t => pure (tmps.getD t undef)
  | .cell c t => do loadVar t (← asAddr (tmps.getD c undef))
theorem resE_s (hT : TableOk P T) (m : Mem V U0 L B A pb rw w) (hts : hL (env U0 B A pb rw w) ts a.tmps.toList) : ∀ (rs : List ResultVar) {K : List DV → Option β}, resE stdW T rs ts pb rw K = some q →
    ∃ xs vs, K xs = some q ∧ hL (env U0 B A pb rw w) xs vs ∧ (rs.mapM (resOne a.tmps)).run P w = .ok vs w
  | [], K, h => ⟨[], [], h, by simp [hL], by simp⟩
  | .tmp t :: rs, K, h => by
    simp only [resE] at h
    split at h
    · rename_i x hx
      obtain ⟨xs, vs, h1, h2, h3⟩ := resE_s hT m hts rs h
      have hv := gtV_h hx hts
      refine ⟨x :: xs, ((a.tmps.toList[t]?).getD undef) :: vs, h1, ?_, ?_⟩
      · simp only [hL]; exact ⟨_, _, rfl, hv, h2⟩
      · have e : a.tmps.getD t undef = (a.tmps.toList[t]?).getD undef := by simp
        simp only [List.mapM_cons, resOne, Sem.run_bind, Sem.run_pure, Result.andThen_ok, h3, e]
    · cases h
  | .cell c t :: rs, K, h => by
    simp only [resE] at h
    split at h
    · rename_i x hx
      have hv := gtV_h hx hts
      obtain ⟨r, u, ad, e1, g1, g2, g3, _⟩ := loadE_ok (P := P) hT m h hv
      obtain ⟨xs, vs, h1, h2, h3⟩ := resE_s hT m hts rs g1
      refine ⟨r :: xs, u :: vs, h1, ?_, ?_⟩
      · simp only [hL]; exact ⟨_, _, rfl, g2, h2⟩
      · have hr := g3 w rfl
        have e : a.tmps.getD c undef = .pointer (some ad) := by rw [← e1]; simp
        rw [e1] at hr
        simp only [Instr.loadAt, Instr.sureAddr, Sem.run_bind, Sem.run_pure, Result.andThen_ok] at hr
        simp only [List.mapM_cons, resOne, Sem.run_bind, e, asAddr, Sem.run_pure, Result.andThen_ok, hr, h3]
    · cases h
def oneW (vs : List Value) : Value := match vs with | [v] => v | vs => .tuple vs.toArray
theorem results_s (hT : TableOk P T) (m : Mem V U0 L B A pb rw w) (hts : hL (env U0 B A pb rw w) ts a.tmps.toList) {fn : Func} {K : List DV → Option β} (h : resE stdW T fn.results.toList ts pb rw K = some q) :
    ∃ xs v, K xs = some q ∧ (oneV xs).h (env U0 B A pb rw w) v ∧ (results fn a.tmps).run P w = .ok v w := by
  obtain ⟨xs, vs, h1, h2, h3⟩ := resE_s hT m hts _ h
  refine ⟨xs, oneW vs, h1, ?_, ?_⟩
  · cases xs with
    | nil => simp only [hL] at h2; subst h2; simp only [oneV, DV.h]; exact ⟨#[], rfl, by simp [hL]⟩
    | cons x xs =>
      cases xs with
      | nil =>
        simp only [hL] at h2
        obtain ⟨v, vs', rfl, h4, rfl⟩ := h2
        exact h4
      | cons y xs =>
        have h4 := h2
        simp only [hL] at h4
        obtain ⟨v, vs', rfl, _, v2, vs2, rfl, _⟩ := h4
        simp only [oneV, DV.h]
        exact ⟨_, rfl, h2⟩
  · unfold results
    rw [Sem.run_bind, Array.mapM_eq_mapM_toList, Sem.run_map]
    have e : ∀ f : ResultVar → Sem Value, f = resOne a.tmps → (fn.results.toList.mapM f).run P w = (fn.results.toList.mapM (resOne a.tmps)).run P w := fun f h => by rw [h]
    rw [e _ (by funext x; cases x <;> rfl), h3]
    simp only [Result.andThen_ok]
    match vs with
    | [] => simp [oneW]
    | [x] => simp [oneW]
    | x :: y :: zs => simp [oneW]
theorem initE_s : ∀ (xs : List DV) (n : Nat) {K : List DV → Option β}, initE xs n K = some q → K (xs ++ List.replicate (n - xs.length) .und) = some q ∧ xs.length ≤ n
  | [], n, K, h => ⟨by simpa [initE] using h, by simp⟩
  | x :: xs, n + 1, K, h => by
    have := initE_s xs n h
    simpa using this
  | _ :: _, 0, _, h => by simp [initE] at h
theorem hL_und {E : Env} : ∀ n, hL E (List.replicate n .und) (List.replicate n undef)
  | 0 => by simp [hL]
  | n + 1 => by simp only [List.replicate_succ, hL, DV.h]; exact ⟨_, _, rfl, rfl, hL_und n⟩
/-- WHAT THE EVALUATOR FINDS IS WHAT THE FUNCTION DOES -/
theorem body_ok [EqB β] (hT : TableOk P T) (hC : CsOk P C) (hm : P.follows .mixedOrders = true) {f : FuncId} {fn : Func} {c : Code} (hf : P.funcs[f]? = some fn) (hb : fn.body = some c) (hn : (fn.name == "runtime.NumGoroutine") = false)
    {args : List DV} {R : Exit → DK β} {G : Value → World → Prop} {vs : List Value} (h : initE args fn.ntmps (fun ts => ev stdW T C O JC JL c R ts pb rw) = some q) (m : Mem V U0 L B A pb rw w) (hargs : hL (env U0 B A pb rw w) args vs)
    (hR : ∀ (e : Exit), ¬ (e = .normal ∨ e = .ret) → ∀ ts pb rw, R e ts pb rw ≠ some q)
    (hG : ∀ (e : Exit), (e = .normal ∨ e = .ret) → ∀ (B' : Nat → Nat) (A' : Asg) (ts' : List DV) (pb' : DBs) (rw' : List DR) (a' : Act) (w' : World), Mem V U0 L B' A' pb' rw' w' → hL (env U0 B' A' pb' rw' w') ts' a'.tmps.toList → (∀ i, live pb i → live pb' i ∧ B' i = B i) → R e ts' pb' rw' = some q →
      ∃ v, (results fn a'.tmps).run P w' = .ok v w' ∧ G v w') : CallsX P f vs.toArray w G := by
  refine ⟨.inl ⟨⟨fn, hf, hn, by simp [hb]⟩, ?_⟩⟩
  obtain ⟨h, hlen⟩ := initE_s _ _ h
  have e : ({ tmps := vs.toArray ++ Array.replicate (fn.ntmps - vs.toArray.size) undef, defers := [] } : Act).tmps.toList = vs ++ List.replicate (fn.ntmps - args.length) undef := by
    simp [hL_len hargs]
  have hts : hL (env U0 B A pb rw w) (args ++ List.replicate (fn.ntmps - args.length) .und) ({ tmps := vs.toArray ++ Array.replicate (fn.ntmps - vs.toArray.size) undef, defers := [] } : Act).tmps.toList := by
    rw [e]; exact hL_app hargs (hL_und _)
  refine calls_of_wp hf hb (wp_mono (ev_ok hT hC hm c h m hts) fun e a' w' hq => ?_)
  obtain ⟨he, ⟨B', A', ts', pb', rw', m', h1, h2, h3, h4⟩, _⟩ := hq
  cases e with
  | normal =>
    obtain ⟨v, k1, k2⟩ := hG _ (.inl rfl) _ _ _ _ _ _ _ m' h1 h4 h2
    exact ⟨h3, v, k1, v, rfl, k2⟩
  | ret =>
    obtain ⟨v, k1, k2⟩ := hG _ (.inr rfl) _ _ _ _ _ _ _ m' h1 h4 h2
    exact ⟨h3, v, k1, v, rfl, k2⟩
  | exit i => exact absurd h2 (hR _ (by simp) _ _ _)
  | _ => exact he.elim
theorem evFL_ok (hT : TableOk P T) (hC : CsOk P C) (hm : P.follows .mixedOrders = true) {f : FuncId} {fn : Func} {c : Code} (hf : P.funcs[f]? = some fn) (hb : fn.body = some c) (hn : (fn.name == "runtime.NumGoroutine") = false) {s : LS}
    (h : ∀ z o, s.fn z = some o → evFL stdW T C O JC JL fn s z = some o) : LSok P f s := by
  intro z o hz U0 B A vs w m hargs
  have h := h z o hz
  unfold evFL at h
  rw [hb] at h
  have hlen : (bkM s.B (pkT s.P .unit) z []).1.length = s.B.length := bkM_len _ _ _ _
  generalize bkM s.B (pkT s.P .unit) z [] = bm at h m hargs hlen ⊢
  obtain ⟨pb, y, rw0⟩ := bm
  dsimp only at h m hargs hlen ⊢
  generalize pkM s.P .unit y rw0 = pm at h m hargs ⊢
  obtain ⟨args, u, rw⟩ := pm
  dsimp only at h m hargs ⊢
  have hB : ∀ i, live pb i → i < s.B.length := fun i hi => by rw [← hlen]; exact live_lt hi
  letI := s.Q.eqb
  letI := (bkT s.E .unit).eqb
  have h : initE args fn.ntmps (fun ts => ev stdW T C O JC JL c (retL stdW T fn.results.toList s) ts pb rw) = some o := h
  refine body_ok hT hC hm hf hb hn h m hargs (fun e he ts pb rw hh => ?_) fun e he B' A' ts' pb' rw' a' w' m' hts hl hh => ?_
  · cases e <;> first | exact he (.inl rfl) | exact he (.inr rfl) | (simp only [retL] at hh; cases hh)
  · have hh : resE stdW T fn.results.toList ts' pb' rw' (fun xs => finL s ts' pb' rw' (oneV xs)) = some o := by
      rcases he with rfl | rfl <;> exact hh
    obtain ⟨xs, v, h1, h2, h3⟩ := results_s (P := P) hT m' hts hh
    refine ⟨v, h3, ?_⟩
    unfold finL at h1
    generalize idsB s.E 0 pb' (s.Q.ids (oneV xs) (idA s.B.length)) = am at h1
    dsimp only at h1
    obtain ⟨ts2, pb2, rw2, ps, h4, m2, _, h5, e2, _⟩ := frzE_s (al := fun _ => true) _ h1 m' hts (ps := [oneV xs]) (us := [v]) (by simp only [hL]; exact ⟨_, _, rfl, h2, rfl⟩)
    split at h4
    · rename_i p
      simp only [hL] at h5
      obtain ⟨v', vs', e5, h5, rfl⟩ := h5
      simp only [List.cons.injEq, and_true] at e5; subst e5
      split at h4
      · rename_i ee ms hck hX
        simp only [Bool.and_eq_true] at hck
        split at h4
        · rename_i y2 ms' hQ
          simp only [Option.some.injEq] at h4; subst h4
          obtain ⟨A3, m3, k1, k2, k3⟩ := fin_ok m2 h5 hck.1.1 hck.1.2 hX hQ
          refine ⟨_, A3, _, _, _, m3, k1, fun i hi => ?_, rfl, rfl⟩
          have hi2 := hB i hi
          have hlk := selfA_s hck.2 hi2
          refine ⟨k3 i (keysLt_s hck.1.2 hlk), ?_⟩
          simp only [lB, hlk, Option.getD_some]
          exact (hl i hi).2
        · cases h4
      · cases h4
    · cases h4
theorem evF_ok (hT : TableOk P T) (hC : CsOk P C) (hm : P.follows .mixedOrders = true) {f : FuncId} {fn : Func} {c : Code} (hf : P.funcs[f]? = some fn) (hb : fn.body = some c) (hn : (fn.name == "runtime.NumGoroutine") = false) {s : ES}
    (h : ∀ x q, s.fn x = some q → evF stdW T C O JC JL fn s.P s.Q x = some q) : ESok P f s := by
  intro x o hx U0 B A vs w m hargs
  have h := h x o hx
  unfold evF at h
  rw [hb] at h
  letI := s.Q.eqb
  have h : initE (argVs s.P x) fn.ntmps (fun ts => ev stdW T C O JC JL c (retD stdW T fn.results.toList s.Q) ts [] []) = some o := h
  refine body_ok hT hC hm hf hb hn h m hargs (fun e he ts pb rw hh => ?_) fun e he B' A' ts' pb' rw' a' w' m' hts hl hh => ?_
  · cases e <;> first | exact he (.inl rfl) | exact he (.inr rfl) | (simp only [retD] at hh; cases hh)
  · have hh : resE stdW T fn.results.toList ts' pb' rw' (fun xs => finD s.Q ts' pb' rw' (oneV xs)) = some o := by
      rcases he with rfl | rfl <;> exact hh
    obtain ⟨xs, v, h1, h2, h3⟩ := results_s (P := P) hT m' hts hh
    refine ⟨v, h3, ?_⟩
    unfold finD at h1
    obtain ⟨ts2, pb2, rw2, ps, h4, m2, _, h5, e2, _⟩ := frzE_s (al := fun _ => true) _ h1 m' hts (ps := [oneV xs]) (us := [v]) (by simp only [hL]; exact ⟨_, _, rfl, h2, rfl⟩)
    split at h4
    · rename_i p
      simp only [hL] at h5
      obtain ⟨v', vs', e5, h5, rfl⟩ := h5
      simp only [List.cons.injEq, and_true] at e5; subst e5
      split at h4
      · rename_i y2 ms' hQ
        simp only [Option.some.injEq] at h4; subst h4
        obtain ⟨A3, m3, k1, k2, k3⟩ := fin_ok (El := []) (am := []) (e := ()) m2 h5 rfl rfl rfl hQ
        exact ⟨_, A3, _, _, _, m3, k1, fun i hi => (by obtain ⟨b, hb⟩ := hi; simp at hb), rfl, rfl⟩
      · cases h4
    · cases h4
end
end Go.Vc

namespace Go.Vc
open Go Go.RowKit
/-! ### Contracts of a program's functions, each with its proof -/
/-- a tree without forks: true = a reader -/
def ofL : List (Nat × Bool) → OT
  | [] => .nil
  | (i, true) :: l => .rd i (ofL l)
  | (i, false) :: l => .op i (ofL l)
def oX (n : Nat) (f : List Nat) : OT := ofL ((List.range n).map fun i => (i, !memN i f))
def oI (n : Nat) : OT := oX n []
def oN (l : List Nat) : OT := ofL (l.map fun n => (n / 2, Nat.beq (n % 2) 1))
abbrev DS.i : DS := .t (.int .i64)
abbrev DS.b : DS := .t .bool
abbrev PK.i : PK := .v (.int .i64)
abbrev PK.b : PK := .v .bool
abbrev QT.i : QT := .v (.int .i64)
abbrev QT.b : QT := .v .bool
abbrev DT.p1 (a : DT) : DT := .pair a .unit
abbrev DT.p2 (a b : DT) : DT := .pair a (.pair b .unit)
abbrev DT.p3 (a b c : DT) : DT := .pair a (.pair b (.pair c .unit))
abbrev DT.p4 (a b c d : DT) : DT := .pair a (.pair b (.pair c (.pair d .unit)))
abbrev DT.p5 (a b c d e : DT) : DT := .pair a (.pair b (.pair c (.pair d (.pair e .unit))))
abbrev DT.p6 (a b c d e f : DT) : DT := .pair a (.pair b (.pair c (.pair d (.pair e (.pair f .unit)))))
abbrev DT.p7 (a b c d e f g : DT) : DT := .pair a (.pair b (.pair c (.pair d (.pair e (.pair f (.pair g .unit))))))
abbrev DT.p8 (a b c d e f g h : DT) : DT := .pair a (.pair b (.pair c (.pair d (.pair e (.pair f (.pair g (.pair h .unit)))))))
abbrev QT.p1 (a : QT) : QT := .pair a .unit
abbrev QT.p2 (a b : QT) : QT := .pair a (.pair b .unit)
abbrev QT.p3 (a b c : QT) : QT := .pair a (.pair b (.pair c .unit))
abbrev QT.p4 (a b c d : QT) : QT := .pair a (.pair b (.pair c (.pair d .unit)))
abbrev QT.p5 (a b c d e : QT) : QT := .pair a (.pair b (.pair c (.pair d (.pair e .unit))))
abbrev QT.p6 (a b c d e f : QT) : QT := .pair a (.pair b (.pair c (.pair d (.pair e (.pair f .unit)))))
abbrev QT.p7 (a b c d e f g : QT) : QT := .pair a (.pair b (.pair c (.pair d (.pair e (.pair f (.pair g .unit))))))
abbrev QT.p8 (a b c d e f g h : QT) : QT := .pair a (.pair b (.pair c (.pair d (.pair e (.pair f (.pair g (.pair h .unit)))))))
structure KC (P : Program) where
  n : Nat
  c : Wd → EC
  ok : ECok P n (c stdW)
def kcs {P : Program} : List (KC P) → Wd → ESs
  | [], _ => []
  | k :: l, W => (k.n, k.c W) :: kcs l W
theorem kcs_ok {P : Program} : ∀ l : List (KC P), CsOk P (kcs l stdW)
  | [] => trivial
  | k :: l => ⟨k.ok, kcs_ok l⟩
/-- the mark 'hasCut' -/
def cut_k {P : Program} : KC P := ⟨2000000, fun _ => .es ⟨.unit, .unit, fun _ => none⟩, fun _ _ h => by cases h⟩
/-- what is asked of a program, once -/
structure KProg (P : Program) (T : List TI) : Prop where
  tab : TableOk P T
  mixed : P.follows .mixedOrders = true
def kes {P : Program} {T : List TI} (kp : KProg P T) (n : Nat) (A : DT) (Q : QT) (F : Wd → A.den → Option Q.den) (l : List (KC P)) (O : DTs) (JC JL : List (Nat × DJ)) {fn : Func} {c : Code} (hf : P.funcs[n]? = some fn) (hb : fn.body = some c) (hn : (fn.name == "runtime.NumGoroutine") = false := by decide +kernel)
    (h : ∀ W x, evF W T (kcs l W) O JC JL fn A Q x = F W x) : KC P :=
  ⟨n, fun W => .es ⟨A, Q, F W⟩, evF_ok kp.tab (kcs_ok l) kp.mixed hf hb hn fun x _ hx => (h stdW x).trans hx⟩
def kls {P : Program} {T : List TI} (kp : KProg P T) (n : Nat) (B : List BK) (A : List PK) (E : List BK) (Q : QT) (F : Wd → (bkT B (pkT A .unit)).den → Option (Q.den × (bkT E .unit).den)) (l : List (KC P)) (O : DTs) (JC JL : List (Nat × DJ)) {fn : Func} {c : Code} (hf : P.funcs[n]? = some fn) (hb : fn.body = some c) (hn : (fn.name == "runtime.NumGoroutine") = false := by decide +kernel)
    (h : ∀ W z, evFL W T (kcs l W) O JC JL fn ⟨B, A, E, Q, F W⟩ z = F W z) : KC P :=
  ⟨n, fun W => .ls ⟨B, A, E, Q, F W⟩, evFL_ok kp.tab (kcs_ok l) kp.mixed hf hb hn fun z _ hz => (h stdW z).trans hz⟩
end Go.Vc
namespace Go.Vc
open Go Go.RowKit
variable {β : Type} {r : β}

/-! ### The words, in plain laws -/
/-- a loop does what g says, if each round does, whatever smaller rounds do -/
theorem loop_ok {X : Type} {f : X → (X → Option β) → Option β} (μ : X → Nat) (R : X → Prop) (g : X → Option β)
    (h : ∀ z, R z → ∀ again : X → Option β, (∀ z', R z' → μ z' < μ z → again z' = g z') → f z again = g z) : ∀ (n : Nat) (z : X), R z → μ z < n → loopF n f z = g z
  | 0, z, _, hm => by omega
  | n + 1, z, hz, hm => h z hz _ fun z' hz' hm' => loop_ok μ R g h n z' hz' (by omega)
theorem loop_std {X : Type} {f : X → (X → Option β) → Option β} (μ : X → Nat) (R : X → Prop) (g : X → Option β) {z : X} (hz : R z) (hm : μ z < 18446744073709551616)
    (h : ∀ z, R z → ∀ again : X → Option β, (∀ z', R z' → μ z' < μ z → again z' = g z') → f z again = g z) : stdW.loop f z = g z :=
  loop_ok μ R g h FU z hz (by rw [FU_eq]; exact hm)
theorem both_eq [EqB β] (a : Option β) : bothF a a = a := by
  unfold bothF
  cases a with
  | none => rfl
  | some x => show (bif EqB.eq x x then some x else none) = some x; rw [(EqB.iff x x).2 rfl]; rfl
theorem idx_eq {α : Type} {l : List α} {i : Nat} (h : i < l.length) (K : α → Option β) : idxF l (i : Int) K = K l[i] := by
  unfold idxF
  rw [Int.toNat_natCast, List.getElem?_eq_getElem h]
  simp
theorem nz_eq {b : Int} (h : b ≠ 0) (K : Option β) : nzF b K = K := by unfold nzF; simp [h]
theorem nn_eq {b : Int} (h : 0 ≤ b) (K : Option β) : nnF b K = K := by unfold nnF; simp [h]
theorem room_eq {n b : Nat} (h : n ≤ 281474976710656) (h2 : n * b ≤ 140737488355328) (K : Option β) : roomF n b K = K := by unfold roomF; simp [h, h2]
theorem bnd_eq {i : Int} {n : Nat} (h : 0 ≤ i) (h2 : i ≤ n) (K : Nat → Option β) : bndF i n K = K i.toNat := by unfold bndF; simp [h, h2]
theorem nilF_eq [EqB β] {e : Bool} {f : Bool → Option β} {b : Option β} (h0 : f false = b) (h1 : e = true → f true = b) : nilF e f = b := by
  unfold nilF
  cases e
  · exact h0
  · simp only [cond_true]; rw [h0, h1 rfl, both_eq]
end Go.Vc

namespace Go.Vc
open Go Go.RowKit
abbrev BigT := Bool × List Int × Unit
theorem drop_cons' {α : Type} (l : List α) (i : Nat) (h : i < l.length) : l.drop i = l[i] :: l.drop (i + 1) := List.drop_eq_getElem_cons h
/-! ### bits, the lowest first (plain) -/
def bitsOf (n : Nat) : List Int := if h : n = 0 then [] else ((n % 2 : Nat) : Int) :: bitsOf (n / 2)
termination_by n
decreasing_by omega
theorem bits0 : bitsOf 0 = [] := by rw [bitsOf]; rfl
theorem bitsS {n : Nat} (h : n ≠ 0) : bitsOf n = ((n % 2 : Nat) : Int) :: bitsOf (n / 2) := by rw [bitsOf]; simp [h]
def valB : List Int → Nat
  | [] => 0
  | x :: l => x.toNat + 2 * valB l
def bitL (l : List Int) : Prop := ∀ x ∈ l, x = 0 ∨ x = 1
def Nrm (l : List Int) : Prop := bitsOf (valB l) = l
theorem bitL_bits (n : Nat) : bitL (bitsOf n) := by
  induction n using Nat.strongRecOn with
  | ind n ih =>
    by_cases h : n = 0
    · subst h; rw [bits0]; intro x hx; cases hx
    · rw [bitsS h]; intro x hx
      rcases List.mem_cons.1 hx with rfl | hx
      · omega
      · exact ih (n / 2) (by omega) x hx
theorem Nrm.bits {l : List Int} (h : Nrm l) : bitL l := h ▸ bitL_bits _
def big (z : Int) : BigT := (decide (z < 0), bitsOf z.natAbs, ())
theorem i64_succ (i : Nat) (h : i < 9223372036854775807) : IntKind.i64.wrap ((i : Int) + 1) = ((i + 1 : Nat) : Int) := by rw [IntWalk.i64_in _ (by omega)]; omega
end Go.Vc
namespace Go.Vc
open Go Go.RowKit
variable {β : Type}
/-! ### loops over a list -/
theorem loop_list {α S : Type} {l : List α} (hl : l.length ≤ 9223372036854775807) {f : Int × S → (Int × S → Option β) → Option β} (Inv : Nat → S → Prop) (g : List α → S → Option β) {s0 : S} (h0 : Inv 0 s0)
    (hend : ∀ s (again : Int × S → Option β), Inv l.length s → f ((l.length : Int), s) again = g [] s)
    (hstep : ∀ i (h : i < l.length) s, Inv i s → ∀ again : Int × S → Option β, (∀ s', Inv (i + 1) s' → again (((i + 1 : Nat) : Int), s') = g (l.drop (i + 1)) s') → f ((i : Int), s) again = g (l[i] :: l.drop (i + 1)) s) :
    stdW.loop f (0, s0) = g l s0 := by
  refine (loop_std (fun z => (l.length + 1) - z.1.toNat) (fun z => ∃ i : Nat, z.1 = (i : Int) ∧ i ≤ l.length ∧ Inv i z.2) (fun z => g (l.drop z.1.toNat) z.2) ⟨0, rfl, by omega, h0⟩ (by show l.length + 1 - 0 < _; omega) ?_).trans ?_
  · rintro ⟨z, s⟩ ⟨i, hi, hle, hs⟩ again ha
    dsimp only at hi hs
    subst hi
    simp only [Int.toNat_natCast]
    by_cases h : i < l.length
    · rw [drop_cons' l i h]
      refine hstep i h s hs again fun s' hs' => ?_
      have := ha (((i + 1 : Nat) : Int), s') ⟨i + 1, rfl, by omega, hs'⟩ (by simp only [Int.toNat_natCast]; omega)
      simpa only [Int.toNat_natCast] using this
    · obtain rfl : i = l.length := by omega
      rw [List.drop_length]
      exact hend s again hs
  · simp
theorem cnd_lt {i n : Nat} (h : i < n) (a b : Option β) : stdW.cnd (decide ((i : Int) < (n : Int))) a b = a := by rw [decide_eq_true (by omega)]; rfl
theorem cnd_end {n : Nat} (a b : Option β) : stdW.cnd (decide ((n : Int) < (n : Int))) a b = b := by rw [decide_eq_false (by omega)]; rfl
theorem cnd_y {c : Bool} (h : c = true) (a b : Option β) : stdW.cnd c a b = a := by subst h; rfl
theorem cnd_n {c : Bool} (h : c = false) (a b : Option β) : stdW.cnd c a b = b := by subst h; rfl
theorem idx_w {α : Type} {l : List α} {i : Nat} (h : i < l.length) (K : α → Option β) : stdW.idx l (i : Int) K = K l[i] := idx_eq h K
theorem nth_w {α : Type} {l : List α} {i : Nat} (h : i < l.length) (K : α → Option β) : stdW.nth l (Int.toNat (i : Int)) K = K l[i] := by
  show idxR l _ K = _
  unfold idxR
  rw [Int.toNat_natCast, List.getElem?_eq_getElem h]
theorem room_w {n b : Nat} (h : n ≤ 281474976710656) (h2 : n * b ≤ 140737488355328) (K : Option β) : stdW.room n b K = K := room_eq h h2 K
theorem nn_w {b : Int} (h : 0 ≤ b) (K : Option β) : stdW.nn b K = K := nn_eq h K
theorem both_w [EqB β] (a : Option β) : stdW.both a a = a := both_eq a
theorem join_w {X : Type} (k : X → Option β) (f : (X → Option β) → Option β) : stdW.join k f = f k := rfl
theorem bnd_w {i : Int} {n : Nat} (h : 0 ≤ i) (h2 : i ≤ n) (K : Nat → Option β) : stdW.bnd i n K = K i.toNat := bnd_eq h h2 K
theorem i64_s (i : Nat) (h : i < 9223372036854775807) : IntKind.i64.wrap ((i : Int) + 1) = ((i + 1 : Nat) : Int) := i64_succ i h
end Go.Vc
namespace Go.Vc
variable {β : Type}
/-- a loop that counts up to N -/
theorem loop_n {S : Type} {N : Nat} (hN : N < 9223372036854775807) {f : Int × S → (Int × S → Option β) → Option β} (Inv : Nat → S → Prop) (r : Option β) {s0 : S} (h0 : Inv 0 s0)
    (hend : ∀ s (again : Int × S → Option β), Inv N s → f (((N : Nat) : Int), s) again = r)
    (hstep : ∀ i, i < N → ∀ s, Inv i s → ∀ again : Int × S → Option β, (∀ s', Inv (i + 1) s' → again (((i + 1 : Nat) : Int), s') = r) → f ((i : Int), s) again = r) :
    stdW.loop f (0, s0) = r := by
  refine (loop_std (fun z => (N + 1) - z.1.toNat) (fun z => ∃ i : Nat, z.1 = (i : Int) ∧ i ≤ N ∧ Inv i z.2) (fun _ => r) ⟨0, rfl, by omega, h0⟩ (by show N + 1 - 0 < _; omega) ?_)
  rintro ⟨z, s⟩ ⟨i, hi, hle, hs⟩ again ha
  dsimp only at hi hs
  subst hi
  by_cases h : i < N
  · refine hstep i h s hs again fun s' hs' => ?_
    exact ha (((i + 1 : Nat) : Int), s') ⟨i + 1, rfl, by omega, hs'⟩ (by simp only [Int.toNat_natCast]; omega)
  · obtain rfl : i = N := by omega
    exact hend s again hs
/-! ### sums -/
theorem call_w {α β : Type} {o : Option α} {a : α} (h : o = some a) (K : α → Option β) : stdW.call o K = K a := by subst h; rfl
end Go.Vc

namespace Go.Proofs.YtclleaffonkegaaGreat
open Go Go.Vc Go.RowKit Go.Lib
/-! ### A number's bytes (plain) -/
theorem i64c (z : Int) (h : -9223372036854775808 ≤ z ∧ z < 9223372036854775808) : IntKind.i64.wrap z = z := IntWalk.i64_in z (by omega)
def encU (u : Nat) : List Int := if h : u < 128 then [(u : Int)] else ((u % 128 + 128 : Nat) : Int) :: encU (u / 128)
termination_by u
decreasing_by omega
theorem encU_lt {u : Nat} (h : u < 128) : encU u = [(u : Int)] := by rw [encU, dif_pos h]
theorem encU_ge {u : Nat} (h : 128 ≤ u) : encU u = ((u % 128 + 128 : Nat) : Int) :: encU (u / 128) := by rw [encU, dif_neg (by omega)]
theorem encU_len : ∀ (k u : Nat), u < 128 ^ (k + 1) → (encU u).length ≤ k + 1
  | k, u, h => by
    rcases Nat.lt_or_ge u 128 with hu | hu
    · rw [encU_lt hu]; simp
    · rw [encU_ge hu]
      cases k with
      | zero => simp at h; omega
      | succ k =>
        have := encU_len k (u / 128) (by rw [Nat.pow_succ] at h; omega)
        simp; omega
theorem encU_len10 {u : Nat} (h : u < 18446744073709551616) : (encU u).length ≤ 10 := encU_len 9 u (by omega)

theorem u64c (z : Int) (h : 0 ≤ z ∧ z < 18446744073709551616) : IntKind.u64.wrap z = z := IntWalk.u64_in z (by omega)
theorem u8c (z : Int) (h : 0 ≤ z ∧ z < 256) : IntKind.u8.wrap z = z := IntWalk.u8_in z (by omega)
theorem tmodN (u : Nat) : (u : Int).tmod 128 = ((u % 128 : Nat) : Int) := by rw [Int.tmod_eq_emod_of_nonneg (by omega)]; omega
theorem tdivN (u : Nat) : (u : Int).tdiv 128 = ((u / 128 : Nat) : Int) := by rw [Int.tdiv_eq_ediv_of_nonneg (by omega)]; omega

/-- what a number folds to -/
def fold (n : Int) : Nat := if 0 ≤ n then 2 * n.toNat else 2 * (-(n + 1)).toNat + 1

theorem fold_lt (n : Int) (hn : -9223372036854775808 ≤ n ∧ n ≤ 9223372036854775807) : fold n < 18446744073709551616 := by unfold fold; split <;> omega

def encs (l : List Int) : List Int := l.flatMap fun n => encU (fold n)
def Is64 (n : Int) : Prop := -9223372036854775808 ≤ n ∧ n ≤ 9223372036854775807

def uNext (sh u : Nat) (b : Int) : Nat := u ||| (b.toNat % 128 * 2 ^ sh % 18446744073709551616)
theorem uNext_lt {sh u : Nat} {b : Int} (hu : u < 18446744073709551616) : uNext sh u b < 18446744073709551616 := by
  have h1 : b.toNat % 128 * 2 ^ sh % 18446744073709551616 < 2 ^ 64 := by omega
  have := Nat.or_lt_two_pow (show u < 2 ^ 64 by omega) h1
  unfold uNext; omega
theorem uNext_bits {sh u : Nat} {b : Int} (hu : u < 18446744073709551616) (hs : sh ≤ 63) (hb : 0 ≤ b ∧ b < 256) :
    bits BinOp.or IntKind.u64 (u : Int) (IntKind.u64.wrap (IntKind.u64.wrap (bits BinOp.and IntKind.u8 b 127) * 2 ^ min (Int.toNat (sh : Int)) IntKind.u64.bits)) = (uNext sh u b : Int) := by
  have h : ∀ n : Fin 256, bits BinOp.and IntKind.u8 ((n.val : Nat) : Int) 127 = ((n.val % 128 : Nat) : Int) := by decide +kernel
  have h1 := h ⟨b.toNat, by omega⟩
  have hbn : ((b.toNat : Nat) : Int) = b := by omega
  dsimp only at h1
  rw [hbn] at h1
  have hm : min (Int.toNat (sh : Int)) IntKind.u64.bits = sh := by
    have : IntKind.u64.bits = 64 := by decide +kernel
    rw [this, Int.toNat_natCast]
    exact Nat.min_eq_left (by omega)
  rw [h1, hm, u64c ((b.toNat % 128 : Nat) : Int) (by omega), IntKind.wrap_u64]
  have e : (((b.toNat % 128 : Nat) : Int) * 2 ^ sh % 18446744073709551616) = ((b.toNat % 128 * 2 ^ sh % 18446744073709551616 : Nat) : Int) := by
    have e0 : ((2 ^ sh : Nat) : Int) = (2 : Int) ^ sh := by rw [Int.natCast_pow]; rfl
    rw [← e0, ← Int.natCast_mul]; omega
  rw [e, bits_or_u64_nat _ _ hu (by omega)]
  rfl

/-- a number's groups -/
def numS : Nat → Nat → List Int → Option Nat × List Int × Int
  | _, _, [] => (none, [], 4)
  | sh, u, b :: r => if 63 < sh ∨ (sh = 63 ∧ 1 < b) ∨ (b = 0 ∧ 0 < sh) then (none, [], 3) else if b < 128 then (some (uNext sh u b), r, 0) else numS (sh + 7) (uNext sh u b) r

def unf (u : Nat) : Int := if u % 2 = 0 then ((u / 2 : Nat) : Int) else -((u / 2 : Nat) : Int) - 1
theorem xor_i64_0 (a : Nat) (h : a < 9223372036854775808) : bits .xor .i64 (a : Int) 0 = (a : Int) := by
  have h1 : (BitVec.ofInt 64 (a : Int)).toNat = a := by
    rw [BitVec.ofInt_natCast, BitVec.toNat_ofNat]; exact Nat.mod_eq_of_lt (by omega)
  show IntKind.i64.wrap ((BitVec.ofInt 64 (a : Int) ^^^ BitVec.ofInt 64 0).toNat : Int) = _
  have h2 : BitVec.ofInt 64 0 = 0#64 := by decide
  rw [h2, BitVec.xor_zero, h1, i64c _ (by omega)]
theorem xor_i64_1 (a : Nat) (h : a < 9223372036854775808) : bits .xor .i64 (a : Int) (-1) = -(a : Int) - 1 := by
  have h1 : (BitVec.ofInt 64 (a : Int)).toNat = a := by
    rw [BitVec.ofInt_natCast, BitVec.toNat_ofNat]; exact Nat.mod_eq_of_lt (by omega)
  show IntKind.i64.wrap ((BitVec.ofInt 64 (a : Int) ^^^ BitVec.ofInt 64 (-1)).toNat : Int) = _
  have h2 : BitVec.ofInt 64 (-1) = BitVec.allOnes 64 := by decide
  rw [h2, BitVec.xor_allOnes, BitVec.toNat_not, h1, IntKind.wrap_i64]
  omega
theorem unf_bits (u : Nat) (hu : u < 18446744073709551616) : bits BinOp.xor IntKind.i64 (IntKind.i64.wrap ((u : Int).fdiv (2 ^ min (Int.toNat 1) IntKind.u64.bits))) (IntKind.i64.wrap (0 - IntKind.i64.wrap (bits BinOp.and IntKind.u64 (u : Int) 1))) = unf u := by
  have e : (2 : Int) ^ min (Int.toNat 1) IntKind.u64.bits = 2 := by decide +kernel
  have e1 : bits BinOp.and IntKind.u64 (u : Int) 1 = ((u % 2 : Nat) : Int) := by
    have := bits_and_u64_nat u 1 hu (by decide)
    rw [Nat.and_one_is_mod] at this
    exact this
  rw [e, e1, Int.fdiv_eq_ediv_of_nonneg _ (by omega), show (u : Int) / 2 = ((u / 2 : Nat) : Int) by omega, i64c ((u / 2 : Nat) : Int) (by omega), i64c ((u % 2 : Nat) : Int) (by omega), i64c _ (by omega)]
  unfold unf
  by_cases h : u % 2 = 0
  · rw [if_pos h, h]; exact xor_i64_0 _ (by omega)
  · have h1 : u % 2 = 1 := by omega
    rw [if_neg h, h1]; exact xor_i64_1 _ (by omega)
/-- what a reading of a number answers, and what is left, and the error -/
def rdInt (bs : List Int) (e lo hi : Int) : Int × List Int × Int :=
  if e ≠ 0 then (0, bs, e) else
  match numS 0 0 bs with
  | (none, r, e') => (0, r, e')
  | (some u, r, e') => if unf u < lo ∨ hi < unf u then (0, [], 7) else (unf u, r, e')
theorem numS_lt : ∀ (bs : List Int) (sh u : Nat), u < 18446744073709551616 → ∀ x, (numS sh u bs).1 = some x → x < 18446744073709551616
  | [], sh, u, hu, x, h => by simp [numS] at h
  | b :: r, sh, u, hu, x, h => by
    unfold numS at h
    split at h
    · simp at h
    · split at h
      · simp at h; rw [← h]; exact uNext_lt hu
      · exact numS_lt r _ _ (uNext_lt hu) x h

theorem or_add (acc x k : Nat) (h : acc < 2 ^ k) : acc ||| (x * 2 ^ k) = acc + x * 2 ^ k := by
  rw [Nat.mul_comm, Nat.or_comm, ← Nat.two_pow_add_eq_or_of_lt h, Nat.add_comm]
theorem uNext_add {sh acc b : Nat} (ha : acc < 2 ^ sh) (hx : b % 128 * 2 ^ sh < 18446744073709551616) : uNext sh acc (b : Int) = acc + b % 128 * 2 ^ sh := by
  unfold uNext
  rw [Int.toNat_natCast, Nat.mod_eq_of_lt hx, or_add _ _ _ ha]
theorem pow_split (sh : Nat) (h : sh ≤ 64) : 2 ^ (64 - sh) * 2 ^ sh = 18446744073709551616 := by
  rw [← Nat.pow_add, Nat.sub_add_cancel h]

theorem groups (v P acc : Nat) : acc + v % 128 * P + v / 128 * (128 * P) = acc + v * P := by
  have h : v * P = (128 * (v / 128) + v % 128) * P := by congr 1; omega
  have h2 : v / 128 * (128 * P) = 128 * (v / 128) * P := by rw [← Nat.mul_assoc, Nat.mul_comm (v / 128) 128]
  rw [h, h2, Nat.add_mul]; omega
/-- what was written is read -/
theorem numS_enc : ∀ (k v acc : Nat) (r : List Int), k ≤ 9 → acc < 2 ^ (7 * k) → v < 2 ^ (64 - 7 * k) → (0 < k → 0 < v) → numS (7 * k) acc (encU v ++ r) = (some (acc + v * 2 ^ (7 * k)), r, 0) := by
  intro k
  have main : ∀ m k, 9 - k = m → ∀ (v acc : Nat) (r : List Int), k ≤ 9 → acc < 2 ^ (7 * k) → v < 2 ^ (64 - 7 * k) → (0 < k → 0 < v) → numS (7 * k) acc (encU v ++ r) = (some (acc + v * 2 ^ (7 * k)), r, 0) := by
    intro m
    induction m with
    | zero =>
      intro k hk v acc r h9 ha hv hp
      have : k = 9 := by omega
      subst this
      have hv' : v < 2 := hv
      have h1 : v = 1 := by have := hp (by omega); omega
      subst h1
      rw [encU_lt (by omega)]
      have e := uNext_add (sh := 63) (acc := acc) (b := 1) ha (by decide)
      simp only [List.cons_append, List.nil_append]
      unfold numS
      rw [if_neg (by omega), if_pos (by omega)]
      rw [show ((1 : Nat) : Int) = 1 from rfl] at e ⊢
      rw [e]
    | succ m ih =>
      intro k hk v acc r h9 ha hv hp
      have hk9 : k < 9 := by omega
      rcases Nat.lt_or_ge v 128 with h | h
      · rw [encU_lt h]
        simp only [List.cons_append, List.nil_append]
        unfold numS
        rw [if_neg (by omega), if_pos (by omega)]
        have hb : v % 128 * 2 ^ (7 * k) < 18446744073709551616 := by
          rw [← pow_split (7 * k) (by omega)]
          exact Nat.mul_lt_mul_of_pos_right (by rw [Nat.mod_eq_of_lt h]; exact hv) (Nat.pow_pos (by decide))
        rw [uNext_add ha hb, Nat.mod_eq_of_lt h]
      · rw [encU_ge h]
        simp only [List.cons_append]
        unfold numS
        rw [if_neg (by omega), if_neg (by omega)]
        have hmod : (v % 128 + 128) % 128 = v % 128 := by omega
        have hvd : v % 128 * 2 ^ (7 * k) < 18446744073709551616 := by
          rw [← pow_split (7 * k) (by omega)]
          exact Nat.mul_lt_mul_of_pos_right (Nat.lt_of_le_of_lt (Nat.mod_le _ _) hv) (Nat.pow_pos (by decide))
        have e := uNext_add (sh := 7 * k) (acc := acc) (b := v % 128 + 128) ha (by rw [hmod]; exact hvd)
        rw [e, hmod]
        have hpow : 2 ^ (7 * (k + 1)) = 128 * 2 ^ (7 * k) := by rw [show 7 * (k + 1) = 7 + 7 * k by omega, Nat.pow_add]
        have hacc : acc + v % 128 * 2 ^ (7 * k) < 2 ^ (7 * (k + 1)) := by
          rw [hpow]
          have : v % 128 * 2 ^ (7 * k) ≤ 127 * 2 ^ (7 * k) := Nat.mul_le_mul_right _ (by omega)
          omega
        have hv2 : v / 128 < 2 ^ (64 - 7 * (k + 1)) := by
          rw [Nat.div_lt_iff_lt_mul (by decide)]
          have : 2 ^ (64 - 7 * (k + 1)) * 128 = 2 ^ (64 - 7 * k) := by rw [show 64 - 7 * k = (64 - 7 * (k + 1)) + 7 by omega, Nat.pow_add]
          omega
        have := ih (k + 1) (by omega) (v / 128) _ r (by omega) hacc hv2 (by omega)
        rw [show 7 * k + 7 = 7 * (k + 1) by omega, this, hpow]
        rw [groups v (2 ^ (7 * k)) acc]
  exact main _ k rfl

/-- bytes that are read are those of the number -/
theorem numS_canon : ∀ (bs : List Int) (k acc u : Nat) (r : List Int) (e : Int), (∀ b ∈ bs, 0 ≤ b ∧ b < 256) → k ≤ 10 → acc < 2 ^ (7 * k) → numS (7 * k) acc bs = (some u, r, e) →
    ∃ v, bs = encU v ++ r ∧ u = acc + v * 2 ^ (7 * k) ∧ (0 < k → 0 < v) ∧ k ≤ 9 ∧ v < 2 ^ (64 - 7 * k) ∧ e = 0
  | [], _, _, _, _, _, _, _, _, h => by simp [numS] at h
  | b :: bs, k, acc, u, r, e, hb, hk, ha, h => by
    have hb0 := hb b (by simp)
    obtain ⟨n, rfl⟩ := Int.eq_ofNat_of_zero_le hb0.1
    unfold numS at h
    split at h
    · simp at h
    · rename_i hc
      have hk9 : k ≤ 9 := by omega
      have hbound : n % 128 * 2 ^ (7 * k) < 18446744073709551616 := by
        rcases Nat.lt_or_ge k 9 with h9 | h9
        · have h1 : n % 128 * 2 ^ (7 * k) ≤ 127 * 2 ^ (7 * k) := Nat.mul_le_mul_right _ (by omega)
          have h2 : 2 ^ (7 * k) ≤ 2 ^ 56 := Nat.pow_le_pow_right (by decide) (by omega)
          have h3 : (2 : Nat) ^ 56 = 72057594037927936 := by decide
          omega
        · have : k = 9 := by omega
          subst this
          have hn1 : n ≤ 1 := by omega
          have h3 : (2 : Nat) ^ (7 * 9) = 9223372036854775808 := by decide
          rw [h3]; omega
      rw [uNext_add ha hbound] at h
      split at h
      · rename_i hlt
        simp only [Prod.mk.injEq, Option.some.injEq] at h
        obtain ⟨rfl, rfl, rfl⟩ := h
        have hn : n < 128 := by omega
        refine ⟨n, by rw [encU_lt hn]; rfl, by rw [Nat.mod_eq_of_lt hn], by omega, hk9, ?_, rfl⟩
        rw [Nat.mod_eq_of_lt hn, ← pow_split (7 * k) (by omega)] at hbound
        exact Nat.lt_of_mul_lt_mul_right hbound
      · rename_i hge
        have hn : 128 ≤ n ∧ n < 256 := by omega
        have hpow : 2 ^ (7 * (k + 1)) = 128 * 2 ^ (7 * k) := by rw [show 7 * (k + 1) = 7 + 7 * k by omega, Nat.pow_add]
        have hacc : acc + n % 128 * 2 ^ (7 * k) < 2 ^ (7 * (k + 1)) := by
          rw [hpow]
          have : n % 128 * 2 ^ (7 * k) ≤ 127 * 2 ^ (7 * k) := Nat.mul_le_mul_right _ (by omega)
          omega
        rw [show 7 * k + 7 = 7 * (k + 1) by omega] at h
        obtain ⟨v, h1, h2, h3, h4, h5, h6⟩ := numS_canon bs (k + 1) _ u r e (fun b hb' => hb b (by simp [hb'])) (by omega) hacc h
        have hv0 := h3 (by omega)
        refine ⟨128 * v + (n - 128), ?_, ?_, fun _ => by omega, hk9, ?_, h6⟩
        · rw [encU_ge (by omega), h1]
          have e1 : (128 * v + (n - 128)) % 128 + 128 = n := by omega
          have e2 : (128 * v + (n - 128)) / 128 = v := by omega
          rw [e1, e2]; rfl
        · rw [h2, hpow]
          have e1 : n % 128 = (128 * v + (n - 128)) % 128 := by omega
          have e2 : v = (128 * v + (n - 128)) / 128 := by omega
          have := groups (128 * v + (n - 128)) (2 ^ (7 * k)) acc
          rw [← e1, ← e2] at this
          exact this
        · have h7 : 2 ^ (64 - 7 * k) = 128 * 2 ^ (64 - 7 * (k + 1)) := by rw [show 64 - 7 * k = 7 + (64 - 7 * (k + 1)) by omega, Nat.pow_add]
          rw [h7]; omega

theorem unf_fold (n : Int) : unf (fold n) = n := by unfold unf fold; split <;> split <;> omega
theorem fold_unf (u : Nat) : fold (unf u) = u := by unfold unf fold; split <;> split <;> omega
theorem unf_is (u : Nat) (h : u < 18446744073709551616) : Is64 (unf u) := by unfold unf Is64; split <;> omega

theorem rdInt_enc (n : Int) (hn : Is64 n) (lo hi : Int) (r : List Int) (h : lo ≤ n ∧ n ≤ hi) : rdInt (encU (fold n) ++ r) 0 lo hi = (n, r, 0) := by
  have := numS_enc 0 (fold n) 0 r (by omega) (by decide) (by simpa using fold_lt n hn) (by omega)
  simp only [Nat.mul_zero, Nat.pow_zero, Nat.mul_one, Nat.zero_add] at this
  unfold rdInt
  rw [if_neg (by simp), this]
  simp only [unf_fold]
  rw [if_neg (by omega)]
theorem numS_none : ∀ (bs : List Int) (sh u : Nat) (r : List Int), numS sh u bs = (none, r, 0) → False
  | [], sh, u, r, h => by simp [numS] at h
  | b :: bs, sh, u, r, h => by
    unfold numS at h
    split at h
    · simp at h
    · split at h
      · simp at h
      · exact numS_none bs _ _ r h
/-- a reading of any number: what is left, and the bytes that it took -/
theorem rdInt_canon (bs : List Int) (hb : ∀ b ∈ bs, 0 ≤ b ∧ b < 256) (n : Int) (r : List Int) (lo hi : Int) (h : rdInt bs 0 lo hi = (n, r, 0)) : bs = encU (fold n) ++ r ∧ Is64 n := by
  unfold rdInt at h
  rw [if_neg (by simp)] at h
  cases hN : numS 0 0 bs with
  | mk o p =>
    obtain ⟨r', e'⟩ := p
    rw [hN] at h
    cases o with
    | none =>
      simp only [Prod.mk.injEq] at h
      obtain ⟨_, rfl, rfl⟩ := h
      exfalso
      exact numS_none bs 0 0 _ hN
    | some u =>
      simp only at h
      split at h
      · simp at h
      · simp only [Prod.mk.injEq] at h
        obtain ⟨rfl, rfl, rfl⟩ := h
        obtain ⟨v, h1, h2, _, _, h5, _⟩ := numS_canon bs 0 0 u r' 0 hb (by omega) (by decide) hN
        simp only [Nat.mul_zero, Nat.pow_zero, Nat.mul_one, Nat.zero_add] at h2
        subst h2
        exact ⟨by rw [fold_unf]; exact h1, unf_is _ (by simpa using h5)⟩
theorem rdInt_canon' (bs : List Int) (e lo hi : Int) (hb : ∀ b ∈ bs, 0 ≤ b ∧ b < 256) (he : e = 0) (h : (rdInt bs e lo hi).2.2 = 0) : bs = encU (fold (rdInt bs e lo hi).1) ++ (rdInt bs e lo hi).2.1 ∧ Is64 (rdInt bs e lo hi).1 := by
  subst he
  refine rdInt_canon bs hb _ _ lo hi ?_
  exact Prod.ext rfl (Prod.ext rfl h)
theorem numS_sub : ∀ (bs : List Int) (sh u : Nat), ∀ z ∈ (numS sh u bs).2.1, z ∈ bs
  | [], sh, u, z, h => by simp [numS] at h
  | b :: bs, sh, u, z, h => by
    unfold numS at h
    split at h
    · simp at h
    · split at h
      · exact List.mem_cons.2 (.inr h)
      · exact List.mem_cons.2 (.inr (numS_sub bs _ _ z h))
theorem rdInt_bytes (bs : List Int) (e lo hi : Int) (hb : ∀ z ∈ bs, 0 ≤ z ∧ z < 256) : ∀ z ∈ (rdInt bs e lo hi).2.1, 0 ≤ z ∧ z < 256 := by
  intro z hz
  refine hb z ?_
  have hs := numS_sub bs 0 0 z
  unfold rdInt at hz
  split at hz
  · exact hz
  · cases hN : numS 0 0 bs with
    | mk o p =>
      rw [hN] at hz hs
      cases o with
      | none => exact hs hz
      | some u =>
        simp only at hz
        split at hz
        · simp at hz
        · exact hs hz
theorem rdInt_err (bs : List Int) (e lo hi : Int) (h : (rdInt bs e lo hi).2.2 = 0) : e = 0 := by
  unfold rdInt at h
  split at h
  · exact h
  · omega
theorem xor_ones (x : Nat) (h : x < 18446744073709551616) : x ^^^ 18446744073709551615 = 18446744073709551615 - x := by
  have h1 : (BitVec.ofNat 64 x ^^^ BitVec.allOnes 64).toNat = x ^^^ 18446744073709551615 := by
    rw [BitVec.toNat_xor, BitVec.toNat_ofNat, BitVec.toNat_allOnes, Nat.mod_eq_of_lt (by simpa using h)]
  have h2 : BitVec.ofNat 64 x ^^^ BitVec.allOnes 64 = ~~~ BitVec.ofNat 64 x := by rw [BitVec.xor_allOnes]
  rw [← h1, h2, BitVec.toNat_not, BitVec.toNat_ofNat, Nat.mod_eq_of_lt (by simpa using h)]
theorem fold_bits (n : Int) (hn : Is64 n) : bits BinOp.xor IntKind.u64 (IntKind.u64.wrap (IntKind.i64.wrap (n * 2 ^ min (Int.toNat 1) IntKind.i64.bits))) (IntKind.u64.wrap (n.fdiv (2 ^ min (Int.toNat 63) IntKind.i64.bits))) = (fold n : Int) := by
  have e1 : (2 : Int) ^ min (Int.toNat 1) IntKind.i64.bits = 2 := by decide +kernel
  have e2 : (2 : Int) ^ min (Int.toNat 63) IntKind.i64.bits = 9223372036854775808 := by decide +kernel
  unfold Is64 at hn
  rw [e1, e2, IntKind.wrap_i64, IntKind.wrap_u64, IntKind.wrap_u64, Int.fdiv_eq_ediv_of_nonneg _ (by omega)]
  unfold fold
  by_cases h : 0 ≤ n
  · rw [if_pos h]
    have a1 : n / 9223372036854775808 % 18446744073709551616 = ((0 : Nat) : Int) := by omega
    rw [a1, show ((n * 2 + 9223372036854775808) % 18446744073709551616 - 9223372036854775808) % 18446744073709551616 = ((2 * n.toNat : Nat) : Int) by omega, bits_xor_u64_nat _ _ (by omega) (by omega), Nat.xor_zero]
  · rw [if_neg h]
    have a1 : n / 9223372036854775808 % 18446744073709551616 = ((18446744073709551615 : Nat) : Int) := by omega
    rw [a1, show ((n * 2 + 9223372036854775808) % 18446744073709551616 - 9223372036854775808) % 18446744073709551616 = (((n * 2 + 18446744073709551616).toNat : Nat) : Int) by omega, bits_xor_u64_nat _ _ (by omega) (by omega), xor_ones _ (by omega)]
    omega
theorem or128 (u : Nat) : bits BinOp.or IntKind.u8 (IntKind.u8.wrap (u : Int)) 128 = ((u % 128 + 128 : Nat) : Int) := by
  have h : ∀ n : Fin 256, bits BinOp.or IntKind.u8 ((n.val : Nat) : Int) 128 = ((n.val % 128 + 128 : Nat) : Int) := by decide +kernel
  have h1 := h ⟨u % 256, by omega⟩
  rw [IntKind.wrap_u8, show (u : Int) % 256 = ((u % 256 : Nat) : Int) by omega, h1]
  dsimp only
  omega
end Go.Proofs.YtclleaffonkegaaGreat
namespace Go.Proofs.YtclleaffonkegaaGreat
open Go Go.Vc Go.RowKit
/-! what functions with contracts by hand compute (the kernel can run it) -/
@[reducible] def tU0 : DT := (.pair (.int .i64) (.pair (.int .i64) .unit))
@[reducible] def tF0 : DT := (.pair tU0 (.pair (.int .i64) .unit))
abbrev U0' := Int × Int × Unit
abbrev F0' := U0' × Int × Unit
abbrev KU2 := Int × Int × Unit
def leK (x y : KU2) : Bool := decide (x.1 < y.1) || (x.1 == y.1 && decide (x.2.1 ≤ y.2.1))
def insK (x : KU2) : List KU2 → List KU2
  | [] => [x]
  | y :: l => bif leK x y then x :: y :: l else y :: insK x l
def srtK : List KU2 → List KU2
  | [] => []
  | x :: l => insK x (srtK l)
def unitsort (l : List KU2) : Option (List KU2) := bif Nat.blt l.length 4611686018427387904 then some (srtK l) else none
def growO (l : List F0') (n : Int) : Option (List F0' × Unit) := bif decide (0 ≤ n) && decide ((l.length + n) * 24 ≤ 140737488355328) then some (l, ()) else none
theorem insK_perm (x : KU2) : ∀ l, (insK x l).Perm (x :: l)
  | [] => .refl _
  | y :: l => by
    unfold insK
    cases leK x y with
    | true => exact .refl _
    | false => exact ((insK_perm x l).cons y).trans (.swap x y l)
theorem srtK_perm : ∀ l, (srtK l).Perm l
  | [] => .refl _
  | x :: l => (insK_perm x _).trans ((srtK_perm l).cons x)
theorem leK_tr {x y z : KU2} (h1 : leK x y = true) (h2 : leK y z = true) : leK x z = true := by
  simp only [leK, Bool.or_eq_true, Bool.and_eq_true, decide_eq_true_eq, beq_iff_eq] at *; omega
theorem leK_tot {x y : KU2} (h : leK x y = false) : leK y x = true := by
  simp only [leK, Bool.or_eq_false_iff, Bool.and_eq_false_imp, decide_eq_false_iff_not, beq_iff_eq, Bool.or_eq_true, Bool.and_eq_true, decide_eq_true_eq] at *; omega
theorem insK_srt (x : KU2) : ∀ {l : List KU2}, l.Pairwise (fun a b => leK a b = true) → (insK x l).Pairwise fun a b => leK a b = true
  | [], _ => by simp [insK]
  | y :: l, h => by
    obtain ⟨h1, h2⟩ := List.pairwise_cons.1 h
    unfold insK
    cases hxy : leK x y with
    | true => exact List.pairwise_cons.2 ⟨fun z hz => (List.mem_cons.1 hz).elim (fun e => e ▸ hxy) fun hz => leK_tr hxy (h1 z hz), h⟩
    | false => exact List.pairwise_cons.2 ⟨fun z hz => (List.mem_cons.1 ((insK_perm x l).mem_iff.1 hz)).elim (fun e => e ▸ leK_tot hxy) (h1 z), insK_srt x h2⟩
theorem srtK_srt : ∀ l, (srtK l).Pairwise fun a b => leK a b = true
  | [] => .nil
  | x :: l => insK_srt x (srtK_srt l)
namespace Lot
end Lot
end Go.Proofs.YtclleaffonkegaaGreat

namespace Go.Proofs.YtclleaffonkegaaGreat
open Go Go.Vc Go.RowKit
def growb (l : List Int) (n : Int) : Option (List Int × Unit) := bif decide (0 ≤ n) && decide ((l.length : Int) + n ≤ 140737488355328) then some (l, ()) else none
end Go.Proofs.YtclleaffonkegaaGreat