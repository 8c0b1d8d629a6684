import Derived.Test.YtbpbkmngbhgpfaaB5
import Derived.Lib.SliceRun
import Derived.Lib.SlicesDelete
import Derived.Lib.Overlaps
import Derived.Lib.AppendZerosOnto
import Derived.Laws.Externs
import Derived.Laws.IdiomCopy
import Derived.Laws.NewBlocks
import Derived.Deep.RegionLaw
import Derived.Shelf.RegionOpenPlain
import Derived.WalkKit
namespace Go.Proofs.Ytbpbkmngbhgpfaa
open Go Go.Vc Go.RowKit Go.Sort
/-! ### Units in order, plain -/
def ltA (a b : U0') : Prop := a.1 < b.1 ∨ (a.1 = b.1 ∧ a.2.1 < b.2.1)
instance (a b : U0') : Decidable (ltA a b) := by unfold ltA; infer_instance
instance : DecidableEq U0' := inferInstanceAs (DecidableEq (Int × Int × Unit))
theorem extA {a b : U0'} (h1 : a.1 = b.1) (h2 : a.2.1 = b.2.1) : a = b := by
  obtain ⟨a1, a2, ⟨⟩⟩ := a; obtain ⟨b1, b2, ⟨⟩⟩ := b; simp only at h1 h2; subst h1 h2; rfl
theorem ltA_irr (a : U0') : ¬ ltA a a := by unfold ltA; omega
theorem ltA_tr {a b c : U0'} (h1 : ltA a b) (h2 : ltA b c) : ltA a c := by unfold ltA at *; omega
theorem ltA_tot {a b : U0'} (h1 : ¬ ltA a b) (h2 : ¬ ltA b a) : a = b := by
  unfold ltA at *; exact extA (by omega) (by omega)
theorem ltA_as {a b : U0'} (h1 : ltA a b) (h2 : ltA b a) : False := ltA_irr a (ltA_tr h1 h2)
abbrev SrtA (l : List U0') : Prop := l.Pairwise ltA
/-- two ordered lists with the same members are one -/
theorem srt_ext : ∀ {l m : List U0'}, SrtA l → SrtA m → (∀ x, x ∈ l ↔ x ∈ m) → l = m
  | [], [], _, _, _ => rfl
  | [], b :: m, _, _, h => absurd ((h b).2 (by simp)) (by simp)
  | a :: l, [], _, _, h => absurd ((h a).1 (by simp)) (by simp)
  | a :: l, b :: m, hl, hm, h => by
    obtain ⟨h1, h2⟩ := List.pairwise_cons.1 hl
    obtain ⟨h3, h4⟩ := List.pairwise_cons.1 hm
    have hab : a = b := by
      rcases List.mem_cons.1 ((h a).1 (by simp)) with e | e
      · exact e
      · rcases List.mem_cons.1 ((h b).2 (by simp)) with e' | e'
        · exact e'.symm
        · exact (ltA_as (h1 b e') (h3 a e)).elim
    subst hab
    rw [srt_ext h2 h4 fun x => ?_]
    constructor
    · intro hx
      rcases List.mem_cons.1 ((h x).1 (List.mem_cons_of_mem _ hx)) with rfl | e
      · exact (ltA_irr _ (h1 _ hx)).elim
      · exact e
    · intro hx
      rcases List.mem_cons.1 ((h x).2 (List.mem_cons_of_mem _ hx)) with rfl | e
      · exact (ltA_irr _ (h3 _ hx)).elim
      · exact e
theorem uniq_mem : ∀ (l ks : List (Int × Int)) (x : Int × Int), x ∈ l.foldl addU ks ↔ x ∈ ks ∨ x ∈ l
  | [], ks, x => by simp
  | y :: l, ks, x => by
    rw [List.foldl_cons, uniq_mem l]
    unfold addU
    split
    · rename_i hy
      constructor
      · rintro (h | h)
        · exact .inl h
        · exact .inr (by simp [h])
      · rintro (h | h)
        · exact .inl h
        · rcases List.mem_cons.1 h with rfl | h
          · exact .inl hy
          · exact .inr h
    · simp only [List.mem_append, List.mem_cons, List.not_mem_nil, or_false]
      constructor
      · rintro ((h | h) | h) <;> simp [h]
      · rintro (h | h | h) <;> simp [h]
theorem uniq_nd : ∀ (l ks : List (Int × Int)), ks.Nodup → (l.foldl addU ks).Nodup
  | [], ks, h => h
  | y :: l, ks, h => by
    rw [List.foldl_cons]
    refine uniq_nd l _ ?_
    unfold addU
    split
    · exact h
    · rename_i hy
      exact List.nodup_append.2 ⟨h, by simp, fun a ha b hb => by simp at hb; subst hb; rintro rfl; exact hy ha⟩
theorem units_mem (l : List F0') (u : U0') : u ∈ unitsOf l ↔ ∃ x ∈ l, x.1 = u := by
  unfold unitsOf
  rw [List.mem_map]
  constructor
  · rintro ⟨y, hy, rfl⟩
    have hy := (List.mergeSort_perm _ _).subset hy
    rcases (uniq_mem _ [] y).1 hy with h | h
    · cases h
    · obtain ⟨x, hx, rfl⟩ := List.mem_map.1 h
      exact ⟨x, hx, extA rfl rfl⟩
  · rintro ⟨x, hx, rfl⟩
    refine ⟨(x.1.1, x.1.2.1), (List.mergeSort_perm _ _).symm.subset ((uniq_mem _ [] _).2 (.inr (List.mem_map.2 ⟨x, hx, rfl⟩))), extA rfl rfl⟩
theorem units_srt (l : List F0') : SrtA (unitsOf l) := by
  unfold unitsOf SrtA
  rw [List.pairwise_map]
  have h1 := srt_sorted (uniqU (l.map fun x => (x.1.1, x.1.2.1)))
  have h2 : (srtU (uniqU (l.map fun x => (x.1.1, x.1.2.1)))).Nodup := (List.mergeSort_perm _ _).nodup_iff.2 (uniq_nd _ [] (by simp))
  refine List.Pairwise.imp_of_mem (fun {a b} _ _ h => ?_) (h1.and h2)
  obtain ⟨h3, h4⟩ := h
  rw [ltU, Bool.not_eq_true', lessU_f] at h3
  unfold ltA ofU
  simp only
  by_cases e1 : a.1 = b.1
  · have : a.2 ≠ b.2 := fun e2 => h4 (Prod.ext e1 e2)
    omega
  · omega
/-! the reference's way: each one put where it belongs -/
end Go.Proofs.Ytbpbkmngbhgpfaa

namespace Go.Vc
open Go Go.RowKit
variable {β : Type} {r : β}

/-! ### The words, in plain laws -/
/-- a loop does what g says, if each round does, whatever smaller rounds do -/
theorem loop_ok {X : Type} {f : X → (X → Option β) → Option β} (μ : X → Nat) (R : X → Prop) (g : X → Option β)
    (h : ∀ z, R z → ∀ again : X → Option β, (∀ z', R z' → μ z' < μ z → again z' = g z') → f z again = g z) : ∀ (n : Nat) (z : X), R z → μ z < n → loopF n f z = g z
  | 0, z, _, hm => by omega
  | n + 1, z, hz, hm => h z hz _ fun z' hz' hm' => loop_ok μ R g h n z' hz' (by omega)
theorem loop_std {X : Type} {f : X → (X → Option β) → Option β} (μ : X → Nat) (R : X → Prop) (g : X → Option β) {z : X} (hz : R z) (hm : μ z < 18446744073709551616)
    (h : ∀ z, R z → ∀ again : X → Option β, (∀ z', R z' → μ z' < μ z → again z' = g z') → f z again = g z) : stdW.loop f z = g z :=
  loop_ok μ R g h FU z hz (by rw [FU_eq]; exact hm)
theorem both_eq (a : Option β) : bothF a a = a := by unfold bothF; exact if_pos rfl
theorem idx_eq {α : Type} {l : List α} {i : Nat} (h : i < l.length) (K : α → Option β) : idxF l (i : Int) K = K l[i] := by
  unfold idxF
  rw [Int.toNat_natCast, List.getElem?_eq_getElem h]
  simp
theorem nn_eq {b : Int} (h : 0 ≤ b) (K : Option β) : nnF b K = K := by unfold nnF; simp [h]
theorem room_eq {n b : Nat} (h : n ≤ 281474976710656) (h2 : n * b ≤ 140737488355328) (K : Option β) : roomF n b K = K := by unfold roomF; simp [h, h2]
theorem bnd_eq {i : Int} {n : Nat} (h : 0 ≤ i) (h2 : i ≤ n) (K : Nat → Option β) : bndF i n K = K i.toNat := by unfold bndF; simp [h, h2]
theorem nilF_eq {e : Bool} {f : Bool → Option β} {b : Option β} (h0 : f false = b) (h1 : e = true → f true = b) : nilF e f = b := by
  unfold nilF
  cases e
  · exact h0
  · simp only [cond_true]; rw [h0, h1 rfl, both_eq]
end Go.Vc

namespace Go.Vc
open Go Go.RowKit
theorem drop_cons' {α : Type} (l : List α) (i : Nat) (h : i < l.length) : l.drop i = l[i] :: l.drop (i + 1) := List.drop_eq_getElem_cons h
/-! ### bits, the lowest first (plain) -/
def bitsOf (n : Nat) : List Int := if h : n = 0 then [] else ((n % 2 : Nat) : Int) :: bitsOf (n / 2)
termination_by n
decreasing_by omega
theorem bits0 : bitsOf 0 = [] := by rw [bitsOf]; rfl
theorem bitsS {n : Nat} (h : n ≠ 0) : bitsOf n = ((n % 2 : Nat) : Int) :: bitsOf (n / 2) := by rw [bitsOf]; simp [h]
def valB : List Int → Nat
  | [] => 0
  | x :: l => x.toNat + 2 * valB l
def bitL (l : List Int) : Prop := ∀ x ∈ l, x = 0 ∨ x = 1
def Nrm (l : List Int) : Prop := bitsOf (valB l) = l
theorem bitL_bits (n : Nat) : bitL (bitsOf n) := by
  induction n using Nat.strongRecOn with
  | ind n ih =>
    by_cases h : n = 0
    · subst h; rw [bits0]; intro x hx; cases hx
    · rw [bitsS h]; intro x hx
      rcases List.mem_cons.1 hx with rfl | hx
      · omega
      · exact ih (n / 2) (by omega) x hx
theorem Nrm.bits {l : List Int} (h : Nrm l) : bitL l := h ▸ bitL_bits _
theorem i64_pred (i : Nat) (h : 0 < i) (h2 : i ≤ maxLen) : IntKind.i64.wrap (((i : Int)) - (1)) = ((i - 1 : Nat) : Int) := by
  rw [maxLen_eq] at h2; rw [IntWalk.i64_in _ (by omega)]; omega
end Go.Vc

namespace Go.Vc
open Go Go.RowKit
theorem i64_succ (i : Nat) (h : i < 9223372036854775807) : IntKind.i64.wrap ((i : Int) + 1) = ((i + 1 : Nat) : Int) := by rw [IntWalk.i64_in _ (by omega)]; omega
end Go.Vc

namespace Go.Vc
open Go Go.RowKit
end Go.Vc

namespace Go.Vc
open Go Go.RowKit
end Go.Vc

namespace Go.Vc
open Go Go.RowKit
end Go.Vc

namespace Go.Vc
open Go Go.RowKit
end Go.Vc

namespace Go.Vc
open Go Go.RowKit Go.Lib
theorem some_setCells (b : Nat) (vs : List Value) (o : Nat) (w : World) (h : ∀ j, j < vs.length → (w.cell? ⟨b, o + j, none⟩).isSome = true) (k : Nat) (hk : (w.cell? ⟨b, k, none⟩).isSome = true) : ((w.setCells b o vs).cell? ⟨b, k, none⟩).isSome = true := by
  by_cases hin : o ≤ k ∧ k < o + vs.length
  · have := World.cell?_setCells_in b vs o w h (k - o) (by omega)
    rw [show o + (k - o) = k by omega] at this
    rw [this]; rfl
  · rw [World.cell?_setCells_out b vs o w ⟨b, k, none⟩ (fun _ _ => by show k < o ∨ o + vs.length ≤ k; omega)]
    exact hk
theorem run_clear_cells {P : Program} (w : World) (t e ty : TypeId) (z : Value) (ht : P.underlying t = some (.slice e)) (hv : ∀ w, (zeroValue e).run P w = .ok z w) (b o n c : Nat) (hn : 0 < n)
    (hc : ∀ j, j < (Builtin.zeroCells z.cells n).toList.length → (w.cell? ⟨b, o + j, none⟩).isSome = true) (hf : ∀ j, j < (Builtin.zeroCells z.cells n).toList.length → w.frozen? ⟨b, o + j, none⟩ = false) (h1 : ∀ v ∈ (Builtin.zeroCells z.cells n).toList, v.oneCell' = true) :
    (Builtin.clear_ #[t] ty #[.slice (some ⟨b, o, none⟩) n c]).run P w = .ok (.tuple #[]) (w.setCells b o (Builtin.zeroCells z.cells n).toList) := by
  have hst := run_storeCells_cells (P := P) b o (Builtin.zeroCells z.cells n).toList 0 w (by simpa using hc) (by simpa using hf) h1
  simp only [Nat.add_zero] at hst
  obtain ⟨m, rfl⟩ : ∃ m, n = m + 1 := ⟨n - 1, by omega⟩
  simp [Builtin.clear_, run_underlying ht, hv, hst]
end Go.Vc
namespace Go.Proofs.Ytbpbkmngbhgpfaa
open Go Go.Vc Go.RowKit Go.Lib Go.Sort Go.Proofs
theorem elemOkPos : ElemOk Try.prog 52 103 3 40 := elemOk_of (by kernel_rfl) (by kernel_rfl) (by decide)
theorem undPos : Try.prog.underlying 52 = some (.slice 103) := by kernel_rfl
def zPos : Value := .agg #[.int .i64 0, .int .i64 0, .slice none 0 0]
theorem zvPos (w : World) : (zeroValue 103).run Try.prog w = .ok zPos w := by kernel_rfl
theorem zPos_len (n : Nat) : (Builtin.zeroCells zPos.cells n).toList.length = n * 3 := by simp [zPos, Builtin.zeroCells, Value.cells]
theorem zPos_one (n : Nat) : ∀ v ∈ (Builtin.zeroCells zPos.cells n).toList, v.oneCell' = true := by
  intro v hv
  simp only [zPos, Builtin.zeroCells, Value.cells, Array.toList_map, List.mem_map] at hv
  obtain ⟨k, _, rfl⟩ := hv
  have : k % 3 = 0 ∨ k % 3 = 1 ∨ k % 3 = 2 := by omega
  rcases this with h | h | h <;> simp [h] <;> rfl
set_option maxHeartbeats 4000000 in
set_option maxRecDepth 1000000 in
theorem del_raw (g n c i j : Nat) (us : List Value) (w : World) (hl : us.length = n * 3) (hc : ∀ t u, us[t]? = some u → w.cell? ⟨g, t, none⟩ = some u) (h1 : ∀ u ∈ us, u.oneCell' = true)
    (hf : ∀ t, w.frozen? ⟨g, t, none⟩ = false) (hij : i < j) (hj : j ≤ n) (hn : n ≤ c) (hm : c ≤ 9223372036854775807) :
    Calls Try.prog 122 #[.slice (some ⟨g, 0, none⟩) n c, .int .i64 i, .int .i64 j] w fun e w' => e = .returned (.slice (some ⟨g, 0, none⟩) (i + (n - j)) c) ∧
      w' = (w.drew.setCells g (0 + i * 3) (us.drop (j * 3))).setCells g ((i + (n - j)) * 3) (Builtin.zeroCells zPos.cells (n - (i + (n - j)))).toList := by
  obtain ⟨i0, z0, hi0, hz0, hz1, hby, hzs⟩ := elemOkPos.info
  have hlen : (us.drop (j * 3)).length = (n - j) * 3 := by rw [List.length_drop, hl, Nat.sub_mul]
  obtain ⟨news, hnews⟩ : ∃ news, news = us.drop (j * 3) := ⟨_, rfl⟩
  rw [← hnews] at hlen ⊢
  have hget : ∀ t u, news[t]? = some u → w.cell? ⟨g, j * 3 + t, none⟩ = some u := fun t u h => hc _ _ (by rw [hnews, List.getElem?_drop] at h; exact h)
  obtain ⟨A, hA, hsrc⟩ : ∃ A : Addr, (if c = j then some (⟨g, 0, none⟩ : Addr) else some ⟨g, j * 3, none⟩) = some A ∧ Hid (∀ t u, news[t]? = some u → w.drew.cell? (A.add t) = some u) := by
    by_cases h : c = j
    · refine ⟨⟨g, 0, none⟩, by simp [h], fun t u hu => ?_⟩
      have h0 : news.length = 0 := by rw [hlen]; have : n - j = 0 := by omega
                                      rw [this, Nat.zero_mul]
      rw [List.length_eq_zero_iff.1 h0] at hu
      simp at hu
    · refine ⟨⟨g, j * 3, none⟩, by simp [h], fun t u hu => ?_⟩
      rw [Addr.add_lit]
      exact hget t u hu
  have s1 : Hid (news.length = (n - j) * 3) := hlen
  have s2 : Hid (∀ u ∈ news, u.oneCell' = true) := fun u hu => h1 u (by rw [hnews] at hu; exact List.mem_of_mem_drop hu)
  have hall : ∀ t, t < n * 3 → (w.cell? ⟨g, t, none⟩).isSome = true := fun t ht => by rw [hc t _ (List.getElem?_eq_getElem (by omega))]; rfl
  have s3 : Hid (∀ t, t < news.length → (w.drew.cell? ⟨g, 0 + i * 3 + t, none⟩).isSome = true ∧ w.drew.frozen? ⟨g, 0 + i * 3 + t, none⟩ = false) := fun t ht => ⟨hall _ (by omega), hf _⟩
  obtain ⟨W1, hW1⟩ : ∃ W1, W1 = w.drew.setCells g (0 + i * 3) news := ⟨_, rfl⟩
  have hs1 : ∀ t, t < n * 3 → (W1.cell? ⟨g, t, none⟩).isSome = true := fun t ht => by
    rw [hW1]
    exact some_setCells g news (0 + i * 3) w.drew (fun t ht => hall _ (by omega)) _ (hall t ht)
  have hf1 : ∀ t, W1.frozen? ⟨g, t, none⟩ = false := fun t => by rw [hW1, World.frozen?_setCells]; exact hf t
  have hcl : ∀ ty, (Builtin.clear_ #[52] ty #[.slice (some ⟨g, (i + (n - j)) * 3, none⟩) (n - (i + (n - j))) (c - (i + (n - j)))]).run Try.prog W1 = .ok (.tuple #[]) (W1.setCells g ((i + (n - j)) * 3) (Builtin.zeroCells zPos.cells (n - (i + (n - j)))).toList) := fun ty => by
    have := run_clear_cells W1 52 103 ty zPos undPos zvPos g ((i + (n - j)) * 3) (n - (i + (n - j))) (c - (i + (n - j))) (by omega) (fun t ht => hs1 _ (by rw [zPos_len] at ht; omega)) (fun t _ => hf1 _) (zPos_one _)
    exact this
  obtain ⟨W2, hW2⟩ : ∃ W2, W2 = W1.setCells g ((i + (n - j)) * 3) (Builtin.zeroCells zPos.cells (n - (i + (n - j)))).toList := ⟨_, rfl⟩
  have X : Hid (W1 = w.drew.setCells g (0 + i * 3) news) := hW1
  have mixed := mixedP0
  have hic : i ≤ c := by omega
  have hjc : j ≤ c := by omega
  rw [← hW1, ← hW2]
  rw [← hW2] at hcl
  clear hW1 hW2 hs1 hf1 hall hget hnews hlen hc hf h1 hl
  go_enter Try.func122, Try.ntmps122
  go_wp2_with fail
  go_region_law_o (refine step_append_room rfl (.tmp 22) (.tmp 25) 52 rfl 103 i0 3 undPos hi0 hz1 g 0 i c (by simp [Act.eval, Act.put]) A (n - j) (c - j) news (by simp [Act.eval, Act.put]) s1.out hsrc.out s2.out (by omega) s3.out ?_; rw [← X.out])
  go_wp2
  go_ret
  exact ⟨rfl, rfl⟩
end Go.Proofs.Ytbpbkmngbhgpfaa

namespace Go.Vc
open Go Go.RowKit Go.Lib
/-- the model's entry for slices.overlaps: the second slice is a row of one's own, the first lies elsewhere -/
theorem run_overlaps_own {P : Program} (w : World) (tS tR e : TypeId) (ht : P.underlying tS = some (.slice e)) (size : Nat) (hz : ∀ w, (Go.sizeOf e).run P w = .ok size w)
    (a b : Addr) (la ca lb cb : Nat) (hne : a.block ≠ b.block) (u : Value) (j : Nat) (hc : w.cell? (a.add j) = some u) (cur : Array Value) (eb : TypeId) (hb : w.heap[b.block]? = some (.cells cur eb (0, 0))) :
    (Extern.SlicesOverlaps.overlaps #[tS, tS] #[tR] #[.slice (some a) la ca, .slice (some b) lb cb]).run P w = .ok (.bool false) w := by
  have hnb : (a.block != b.block) = true := by simpa using hne
  have hnb' : (a.block == b.block) = false := by simpa using hne
  obtain ⟨ca', ea, fa, ha, h0⟩ : ∃ ca' ea fa, w.heap[a.block]? = some (.cells ca' ea fa) ∧ 0 < ca'.size := by
    unfold World.cell? at hc
    rw [add_block] at hc
    split at hc
    · rename_i c e f h
      refine ⟨c, e, f, h, ?_⟩
      split at hc
      · cases hc
      · have := (Array.getElem?_eq_some_iff.1 hc).1; omega
    · cases hc
  have hsa : w.shape? a.block = some (ea, ca'.size) := by simp [World.shape?, ha]
  have hsb : w.shape? b.block = some (eb, cur.size) := by simp [World.shape?, hb]
  have hfb : w.frozen? b = false := by simp [World.frozen?, hb]
  have hfb2 : w.frozen? { block := b.block, off := cur.size } = false := by simp [World.frozen?, hb]
  change Sem.run P (α := Value) (do
    let some t := (#[tS, tS] : Array TypeId)[0]? | stuck "slices.overlaps: no parameter types"
    let .slice elem ← underlying t | stuck "slices.overlaps: slice type expected"
    let size ← sizeOf elem
    match (some a : Option Addr), (some b : Option Addr) with
    | some a, some b =>
      if la = 0 ∨ lb = 0 ∨ size = 0 then pure (Value.bool false)
      else if a.block != b.block && (← frozen a) && (← frozen b) then unsupported .addressObserved
      else do
        if a.block != b.block then do
          noView a; noView b
          if ← mayBeOne a b then return Value.bool ((← choose (.extern "sameAddr.stringBytes" 2)) == 1)
        pure (Value.bool (a.block == b.block && a.off < b.off + lb * size && b.off < a.off + la * size))
    | _, _ => pure (Value.bool false)) w = _
  by_cases h0' : la = 0 ∨ lb = 0 ∨ size = 0
  · simp [run_underlying ht, hz, h0']
  · obtain ⟨k, hk⟩ : ∃ k, ca'.size = k + 1 := ⟨ca'.size - 1, by omega⟩
    rw [hk] at hsa
    cases hfa : w.frozen? a <;> cases hfa2 : w.frozen? { block := a.block, off := k + 1 } <;>
      simp [run_underlying ht, hz, h0', hnb, hnb', frozen, noView, viewAt, mayBeOne, stringish, shape, Sem.run, hsa, hsb, hfa, hfb, hfa2, hfb2]
theorem run_copy_rows {P : Program} (w : World) (dT sT ty elem : TypeId) (i0 : TypeInfo) (b o dLen dCap : Nat) (a : Addr) (sLen sCap : Nat) (cs : List Value)
    (hu : P.underlying dT = some (.slice elem)) (hs : P.info? elem = some i0) (m : Nat) (hm : m = Nat.min sLen dLen) (hn : cs.length = m * i0.size)
    (hsrc : ∀ j v, cs[j]? = some v → w.cell? (a.add j) = some v) (hc : ∀ j, j < cs.length → (w.cell? ⟨b, o + j, none⟩).isSome = true) (hf : ∀ j, j < cs.length → w.frozen? ⟨b, o + j, none⟩ = false) (h1 : ∀ v ∈ cs, v.oneCell' = true) :
    (Builtin.copy_ #[dT, sT] ty #[.slice (some ⟨b, o, none⟩) dLen dCap, .slice (some a) sLen sCap]).run P w = .ok (goInt m) (w.setCells b o cs) := by
  have hl := run_loadCells_list (P := P) w a cs hsrc
  have hst := run_storeCells_cells (P := P) b o cs 0 w (by simpa using hc) (by simpa using hf) h1
  subst hm
  simp [Builtin.copy_, run_underlying hu, Builtin.lenOf, Builtin.firstCells, sizeOf, typeInfo, hs, ← hn, hl, hst]
end Go.Vc
namespace Go.Proofs.Ytbpbkmngbhgpfaa
open Go Go.Vc Go.RowKit Go.Lib Go.Sort Go.Proofs
theorem szPos (w : World) : (Go.sizeOf 103).run Try.prog w = .ok 3 w := by kernel_rfl
set_option maxHeartbeats 4000000 in
set_option maxRecDepth 1000000 in
theorem ins_end_room (g n c : Nat) (x : Addr) (vc : Nat) (vs : List Value) (w : World) (hroom : n + 1 ≤ c) (hm : c ≤ 9223372036854775807) (hvl : vs.length = 3)
    (hsp : ∀ t, t < c * 3 → (w.cell? ⟨g, t, none⟩).isSome = true) (hf : ∀ t, w.frozen? ⟨g, t, none⟩ = false) (hvs : ∀ t u, vs[t]? = some u → w.cell? (x.add t) = some u) (h1v : ∀ u ∈ vs, u.oneCell' = true) :
    Calls Try.prog 123 #[.slice (some ⟨g, 0, none⟩) n c, .int .i64 n, .slice (some x) 1 vc] w fun e w' => e = .returned (.slice (some ⟨g, 0, none⟩) (n + 1) c) ∧ w' = w.setCells g (n * 3) vs := by
  obtain ⟨i0, z0, hi0, hz0, hz1, hby, hzs⟩ := elemOkPos.info
  have mixed := mixedP0
  have hrun : ∀ ty, (Builtin.append_ #[52, 52] ty #[.slice (some ⟨g, 0, none⟩) n c, .slice (some x) 1 vc]).run Try.prog w = .ok (.slice (some ⟨g, 0, none⟩) (n + 1) c) (w.setCells g (n * 3) vs) := fun ty => by
    have := run_append_room_cells (P := Try.prog) (w := w) 52 ty 103 i0 undPos hi0 g 0 n c x 1 vc vs (by rw [hvl, hz1]) hvs h1v hroom (fun t ht => hsp _ (by rw [hz1]; omega)) (fun t _ => hf _)
    rwa [hz1, Nat.zero_add] at this
  obtain ⟨W2, hW2⟩ : ∃ W2, W2 = w.setCells g (n * 3) vs := ⟨_, rfl⟩
  rw [← hW2] at hrun ⊢
  clear hW2 hsp hf hvs h1v hvl
  go_enter Try.func123, Try.ntmps123
  go_wp2_with (at_builtin; refine Lib.wpList_append_run _ rfl _ _ _ _ rfl _ _ rfl rfl _ _ (hrun _) ?_)
  go_ret
  exact ⟨rfl, rfl⟩
end Go.Proofs.Ytbpbkmngbhgpfaa

namespace Go.Vc
open Go Go.RowKit Go.Lib
/-- copy, as a step of a walk whose run is known -/
theorem wp_copy_run' (w : World) {P : Program} {o : Oper} {a : Act} {K : Act → World → Prop} {Q : Exit → Act → World → Prop} (d s : Operand) (t t' : TypeId)
    (ho : o.op = .call { callee := .builtin .copy, args := #[d, s], argTypes := #[t, t'] }) (v u : Value) (hd : a.eval d = v) (hs : a.eval s = u) {v' : Value} {w' : World}
    (hr : (Builtin.copy_ #[t, t'] o.type #[v, u]).run P w = .ok v' w') (h : K (a.put o.dst v') w') : o.wp P a w K Q := by
  unfold Oper.wp execOp
  simp only [ho, resolve, invoke, builtin, Sem.run_bind, Sem.run_pure, Result.andThen_ok, List.map_toArray, List.map_cons, List.map_nil, hd, hs, hr]
  exact h
theorem wpList_copy_run' (w : World) {P : Program} {ops : Array Oper} {rest : List Oper} {o : Oper} {a : Act} {Q : Exit → Act → World → Prop} (hgd : o.guard = none) (d s : Operand) (t t' : TypeId)
    (ho : o.op = .call { callee := .builtin .copy, args := #[d, s], argTypes := #[t, t'] }) (v u : Value) (hd : a.eval d = v) (hs : a.eval s = u) {v' : Value} {w' : World}
    (hr : (Builtin.copy_ #[t, t'] o.type #[v, u]).run P w = .ok v' w') (h : wpList P ops Q rest (a.put o.dst v') w') : wpList P ops Q (o :: rest) a w :=
  wpList_plain hgd fun _ hK => wp_copy_run' w d s t t' ho v u hd hs hr (hK _ _ h)
theorem step_copy_run' {P : Program} {ops : Array Oper} {o : Oper} {a : Act} {w : World} {K : Act → World → Prop} {Q : Exit → Act → World → Prop} {E : Prop}
    (hg : o.guard = none) (d x : Operand) (dT sT : TypeId) (hop : o.op = Op.call { callee := Callee.builtin Builtin.copy, args := #[d, x], argTypes := #[dT, sT] })
    (v u : Value) (hd : a.eval d = v) (hx : a.eval x = u) {v' : Value} {w' : World} (hr : (Builtin.copy_ #[dT, sT] o.type #[v, u]).run P w = .ok v' w') (hK : K (a.put o.dst v') w') :
    if Region.wanted o (yielded ops a.tmps) = true then Oper.wp P o a w K Q else E := by
  have hw : Region.wanted o (yielded ops a.tmps) = true := by simp [Region.wanted, hg]
  rw [if_pos hw]
  unfold Oper.wp
  simp [execOp, hop, resolve, invoke, builtin, hd, hx, hr, Result.andThen]
  exact hK
end Go.Vc
namespace Go.Proofs.Ytbpbkmngbhgpfaa
open Go Go.Vc Go.RowKit Go.Lib Go.Sort Go.Proofs
set_option maxHeartbeats 4000000 in
set_option maxRecDepth 1000000 in
theorem ins_shift (g n c i : Nat) (x : Addr) (vc : Nat) (us vs : List Value) (cur : Array Value) (eb : TypeId) (w : World) (hi : i < n) (hroom : n + 1 ≤ c) (hm : c ≤ 9223372036854775807) (hul : us.length = n * 3) (hvl : vs.length = 3)
    (hg : w.heap[g]? = some (.cells cur eb (0, 0))) (hx : x.block ≠ g) (hc : ∀ t u, us[t]? = some u → w.cell? ⟨g, t, none⟩ = some u) (h1 : ∀ u ∈ us, u.oneCell' = true)
    (hsp : ∀ t, t < c * 3 → (w.cell? ⟨g, t, none⟩).isSome = true) (hf : ∀ t, w.frozen? ⟨g, t, none⟩ = false) (hvs : ∀ t u, vs[t]? = some u → w.cell? (x.add t) = some u) (h1v : ∀ u ∈ vs, u.oneCell' = true) :
    Calls Try.prog 123 #[.slice (some ⟨g, 0, none⟩) n c, .int .i64 i, .slice (some x) 1 vc] w fun e w' => e = .returned (.slice (some ⟨g, 0, none⟩) (n + 1) c) ∧
      w' = (w.drew.setCells g ((i + 1) * 3) (us.drop (i * 3))).setCells g (i * 3) vs := by
  obtain ⟨i0, z0, hi0, hz0, hz1, hby, hzs⟩ := elemOkPos.info
  have mixed := mixedP0
  obtain ⟨u0, hu0⟩ : ∃ u, vs[0]? = some u := ⟨vs[0], List.getElem?_eq_getElem (by omega)⟩
  have hov : ∀ lb cb, (callFunc 143 #[.slice (some x) 1 vc, .slice (some ⟨g, (i + 1) * 3, none⟩) lb cb]).run Try.prog w = .ok (.value (.bool false)) w := fun lb cb => by
    rw [run_callFunc_extern Try.func143 (by kernel_rfl) (by kernel_rfl) (by kernel_rfl) (e := Extern.SlicesOverlaps.overlaps #[52, 52] #[4]) (by kernel_rfl),
      run_overlaps_own w 52 4 103 undPos 3 szPos x ⟨g, (i + 1) * 3, none⟩ 1 vc lb cb hx u0 0 (hvs 0 u0 hu0) cur eb hg]
    rfl
  have hdl : (us.drop (i * 3)).length = (n - i) * 3 := by rw [List.length_drop, hul, Nat.sub_mul]
  have hcp1 : ∀ ty dc sc, (Builtin.copy_ #[52, 52] ty #[.slice (some ⟨g, (i + 1) * 3, none⟩) (n - i) dc, .slice (some ⟨g, i * 3, none⟩) (n + 1 - i) sc]).run Try.prog w.drew = .ok (goInt (n - i : Nat)) (w.drew.setCells g ((i + 1) * 3) (us.drop (i * 3))) := fun ty dc sc =>
    run_copy_rows w.drew 52 52 ty 103 i0 g ((i + 1) * 3) (n - i) dc ⟨g, i * 3, none⟩ (n + 1 - i) sc (us.drop (i * 3)) undPos hi0 (n - i) (by simp only [Nat.min_def]; split <;> omega) (by rw [hdl, hz1])
      (fun t v ht => by rw [Addr.add_lit]; exact hc _ v (by rwa [List.getElem?_drop] at ht))
      (fun t ht => hsp _ (by omega)) (fun t _ => hf _) (fun v hv => h1 v (List.mem_of_mem_drop hv))
  obtain ⟨W1, hW1⟩ : ∃ W1, W1 = w.drew.setCells g ((i + 1) * 3) (us.drop (i * 3)) := ⟨_, rfl⟩
  have hsp1 : ∀ t, t < c * 3 → (W1.cell? ⟨g, t, none⟩).isSome = true := fun t ht => by
    rw [hW1]
    exact some_setCells g _ _ w.drew (fun t ht => hsp _ (by omega)) _ (hsp t ht)
  obtain ⟨W2, hW2⟩ : ∃ W2, W2 = W1.setCells g (i * 3) vs := ⟨_, rfl⟩
  have hcp2 : ∀ ty dc, (Builtin.copy_ #[52, 52] ty #[.slice (some ⟨g, i * 3, none⟩) (n + 1 - i) dc, .slice (some x) 1 vc]).run Try.prog W1 = .ok (goInt (1 : Nat)) W2 := fun ty dc => by
    rw [hW2]
    exact run_copy_rows W1 52 52 ty 103 i0 g (i * 3) (n + 1 - i) dc x 1 vc vs undPos hi0 1 (by simp only [Nat.min_def]; split <;> omega) (by rw [hvl, hz1])
      (fun t v ht => by
        rw [hW1, World.cell?_setCells_out g _ _ _ _ (fun h _ => absurd (by rwa [add_block] at h) hx)]
        exact hvs t v ht)
      (fun t ht => hsp1 _ (by omega)) (fun t _ => by rw [hW1, World.frozen?_setCells]; exact hf _) h1v
  rw [← hW1, ← hW2]
  rw [← hW1] at hcp1
  have hw1 : IntKind.i64.wrap ((i : Int) + 1) = (i : Int) + 1 := by rw [IntKind.wrap_i64]; omega
  have hw2 : IntKind.i64.wrap ((n : Int) + 1) = (n : Int) + 1 := by rw [IntKind.wrap_i64]; omega
  have hb1 : (0 : Int) ≤ (i : Int) + 1 := by omega
  have hb5 : (0 : Int) ≤ (n : Int) + 1 := by omega
  have htn : ((i : Int) + 1).toNat = i + 1 := by omega
  have htn2 : ((n : Int) + 1).toNat = n + 1 := by omega
  have hb3 : (i : Int) ≤ (n : Int) + 1 := by omega
  have hb6 : (i : Int) + 1 ≤ (n : Int) + 1 := by omega
  have hb7 : i ≤ n := by omega
  have hb2 : ¬ (c = i + 1) := by omega
  have hb4 : ¬ (c = i) := by omega
  have hz2 : ¬ ((i : Int) = (n : Int)) := by omega
  clear hW1 hW2 hsp1 hsp hf hvs h1v hc h1 hdl hu0 hvl hul
  go_enter Try.func123, Try.ntmps123
  go_wp2_with (simp only [hov])
  go_region_law_o (refine step_copy_run' rfl _ _ 52 52 rfl _ _ (by simp [Act.eval, Act.put]) (by simp [Act.eval, Act.put]) (hcp1 _ _ _) ?_)
  go_wp2_with (at_builtin; refine wpList_copy_run' _ rfl _ _ 52 52 rfl _ _ rfl rfl (hcp2 _ _) ?_)
  go_ret
  exact ⟨rfl, rfl⟩
end Go.Proofs.Ytbpbkmngbhgpfaa

namespace Go.Proofs.Ytbpbkmngbhgpfaa
open Go Go.Vc Go.RowKit Go.Lib Go.Sort Go.Proofs
theorem z0Pos {i0 : TypeInfo} (h : Try.prog.info? 103 = some i0) : i0.zero = some zPos := by
  have e : (Try.prog.info? 103).bind (fun i => i.zero) = some zPos := by kernel_rfl
  rw [h] at e; exact e
set_option maxHeartbeats 4000000 in
set_option maxRecDepth 1000000 in
theorem ins_end_grow (a : Option Addr) (n c : Nat) (x : Addr) (vc : Nat) (us vs : List Value) (w : World) (hroom : c < n + 1) (hn : n ≤ c) (hbig : (n + 1) * 40 ≤ 140737488355328) (hul : us.length = n * 3) (hvl : vs.length = 3)
    (hnil : a = none → n = 0) (hsp : ∀ b, a = some b → b.spot = none) (hc : ∀ b, a = some b → ∀ t u, us[t]? = some u → w.cell? (b.add t) = some u)
    (hvs : ∀ t u, vs[t]? = some u → w.cell? (x.add t) = some u) (h1v : ∀ u ∈ vs, u.oneCell' = true) :
    Calls Try.prog 123 #[.slice a n c, .int .i64 n, .slice (some x) 1 vc] w fun e w' => e = .returned (.slice (some ⟨w.heap.size, 0, none⟩) (n + 1) (grownCap w (n + 1) c 103)) ∧
      w' = w.drew.alloc (.cells ((us ++ vs).toArray ++ Builtin.zeroCells zPos.cells (grownCap w (n + 1) c 103 - (n + 1))) 103) := by
  obtain ⟨i0, z0, hi0, hz0, hz1, hby, hzs⟩ := elemOkPos.info
  have mixed := mixedP0
  have hsrc : Src Try.prog i0.size 52 (.slice (some x) 1 vc) 1 vs w := by
    rw [hz1]
    exact Src.ofSlice w undPos x 1 vc vs (by omega) hvs h1v
  have hold : (Builtin.firstCells i0.size n (.slice a n c)).run Try.prog w.drew = .ok us.toArray w.drew := by
    rw [hz1]
    cases a with
    | none =>
      have h0 := hnil rfl
      subst h0
      rw [List.length_eq_zero_iff.1 (by omega : us.length = 0)]
      exact run_firstCells_none w.drew 3 0 0 c
    | some b => exact run_firstCells_some w.drew 3 n b n c us hul (fun j v hj => hc b rfl j v hj)
  have hrun : ∀ ty, (Builtin.append_ #[52, 52] ty #[.slice a n c, .slice (some x) 1 vc]).run Try.prog w = _ := fun ty =>
    run_append_grow_src w 52 52 ty 103 i0 zPos undPos hi0 (z0Pos hi0) a n c us hold (.slice (some x) 1 vc) 1 vs hsrc hroom (by omega) (by rw [hby]; exact growslice_fits hroom hbig)
  obtain ⟨W2, hW2⟩ : ∃ W2, W2 = w.drew.alloc (.cells ((us ++ vs).toArray ++ Builtin.zeroCells zPos.cells (grownCap w (n + 1) c 103 - (n + 1))) 103) := ⟨_, rfl⟩
  obtain ⟨C, hC⟩ : ∃ C, C = grownCap w (n + 1) c 103 := ⟨_, rfl⟩
  rw [← hW2, ← hC] at hrun
  rw [← hW2, ← hC]
  clear hW2 hC hc hvs h1v hvl hul hold hsrc
  cases a with
  | none =>
    have h0 := hnil rfl
    subst h0
    go_enter Try.func123, Try.ntmps123
    go_wp2_with (at_builtin; refine Lib.wpList_append_run _ rfl _ _ _ _ rfl _ _ rfl rfl _ _ (hrun _) ?_)
    go_ret
    exact ⟨rfl, rfl⟩
  | some b =>
    obtain ⟨ab, ao, asp⟩ := b
    have := hsp _ rfl
    simp only at this
    subst this
    go_enter Try.func123, Try.ntmps123
    go_wp2_with (at_builtin; refine Lib.wpList_append_run _ rfl _ _ _ _ rfl _ _ rfl rfl _ _ (hrun _) ?_)
    all_goals (go_ret; exact ⟨rfl, rfl⟩)
set_option maxHeartbeats 4000000 in
set_option maxRecDepth 1000000 in
theorem ins_grow (g n c i : Nat) (x : Addr) (vc : Nat) (us vs : List Value) (w : World) (hi : i < n) (hroom : c < n + 1) (hn : n ≤ c) (hm : c ≤ 9223372036854775807) (hbig : (n + 1) * 40 ≤ 140737488355328) (hul : us.length = n * 3) (hvl : vs.length = 3)
    (hc : ∀ t u, us[t]? = some u → w.cell? ⟨g, t, none⟩ = some u) (h1 : ∀ u ∈ us, u.oneCell' = true) (hvs : ∀ t u, vs[t]? = some u → w.cell? (x.add t) = some u) (h1v : ∀ u ∈ vs, u.oneCell' = true) :
    Calls Try.prog 123 #[.slice (some ⟨g, 0, none⟩) n c, .int .i64 i, .slice (some x) 1 vc] w fun e w' => e = .returned (.slice (some ⟨w.heap.size, 0, none⟩) (n + 1) (grownCap w (n + 1) c 103)) ∧
      w' = (((w.alloc (.cells ((us.take (i * 3)).toArray ++ Builtin.zeroCells zPos.cells (n + 1 - i) ++ Builtin.zeroCells zPos.cells (grownCap w (n + 1) c 103 - (n + 1))) 103)).drew.setCells w.heap.size (i * 3) vs).drew).setCells w.heap.size ((i + 1) * 3) (us.drop (i * 3)) := by
  obtain ⟨i0, z0, hi0, hz0, hz1, hby, hzs⟩ := elemOkPos.info
  have mixed := mixedP0
  have hbw : g < w.heap.size := block_lt_of_cell (hc 0 _ (List.getElem?_eq_getElem (by omega)))
  have hxw : x.block < w.heap.size := by have := block_lt_of_cell (hvs 0 _ (List.getElem?_eq_getElem (by omega))); rwa [add_block] at this
  have htl : (us.take (i * 3)).length = i * 3 := by rw [List.length_take, hul]; omega
  have hold : (Builtin.firstCells i0.size i (.slice (some ⟨g, 0, none⟩) i c)).run Try.prog w.drew = .ok (us.take (i * 3)).toArray w.drew := by
    rw [hz1]
    exact run_firstCells_some w.drew 3 i ⟨g, 0, none⟩ i c (us.take (i * 3)) htl (fun j v hj => by
      rw [Addr.add_lit, Nat.zero_add]
      rw [List.getElem?_take] at hj
      split at hj
      · exact hc j v hj
      · cases hj)
  have hkk : (n : Int) + 1 - (i : Int) = ((n + 1 - i : Nat) : Int) := by omega
  have hik : i + (n + 1 - i) = n + 1 := by omega
  have hrz : ∀ ty, (Builtin.append_ #[52, 3] ty #[.slice (some ⟨g, 0, none⟩) i c, .int .i64 ((n : Int) + 1 - (i : Int))]).run Try.prog w =
      .ok (.slice (some ⟨w.heap.size, 0, none⟩) (n + 1) (grownCap w (n + 1) c 103)) (w.drew.alloc (.cells ((us.take (i * 3)).toArray ++ Builtin.zeroCells zPos.cells (n + 1 - i) ++ Builtin.zeroCells zPos.cells (grownCap w (n + 1) c 103 - (n + 1))) 103)) := fun ty => by
    have h := Lib.run_append_grow_zeros w 52 3 ty 103 i0 zPos .i64 .i64 undPos und3 hi0 (z0Pos hi0) (some ⟨g, 0, none⟩) i c (us.take (i * 3)) hold (n + 1 - i) (by omega) (by omega) (by omega) (by omega) (by rw [hby]; omega) (by rw [hby, hik]; exact growslice_fits hroom hbig)
    rw [hik] at h
    rw [hkk]
    exact h
  obtain ⟨G, hG⟩ : ∃ G, G = grownCap w (n + 1) c 103 := ⟨_, rfl⟩
  obtain ⟨ROW, hROW⟩ : ∃ ROW : Array Value, ROW = (us.take (i * 3)).toArray ++ Builtin.zeroCells zPos.cells (n + 1 - i) ++ Builtin.zeroCells zPos.cells (G - (n + 1)) := ⟨_, rfl⟩
  rw [← hG] at hrz ⊢
  rw [← hROW] at hrz ⊢
  have hzl : ∀ m : Nat, (Builtin.zeroCells zPos.cells m).size = m * 3 := fun m => by have := zPos_len m; simpa using this
  have hRl : (n + 1) * 3 ≤ ROW.size := by
    rw [hROW, Array.size_append, Array.size_append, hzl, hzl, List.size_toArray, htl]
    omega
  obtain ⟨W1, hW1⟩ : ∃ W1, W1 = w.drew.alloc (.cells ROW 103) := ⟨_, rfl⟩
  rw [← hW1] at hrz
  have hN : ∀ j, j < (n + 1) * 3 → (W1.cell? ⟨w.heap.size, j, none⟩).isSome = true := fun j hj => by
    rw [hW1, World.cell?_alloc_at (w := w.drew) ROW _ w.heap.size j rfl, Array.getElem?_eq_getElem (by omega)]; rfl
  have hNf : ∀ j, W1.frozen? ⟨w.heap.size, j, none⟩ = false := fun j => by rw [hW1]; exact World.frozen?_alloc_at (w := w.drew) ROW _ w.heap.size j rfl
  have hOb : ∀ j v, w.cell? ⟨g, j, none⟩ = some v → W1.cell? ⟨g, j, none⟩ = some v := fun j v h => by rw [hW1, World.cell?_alloc_past (w := w.drew) _ g j hbw]; exact h
  have hOv : ∀ j v, w.cell? (x.add j) = some v → W1.cell? (x.add j) = some v := fun j v h => by
    rw [hW1]
    refine (World.cell?_of_block ?_).trans h
    rw [add_block]
    exact heap_push w.drew _ x.block hxw
  have hdl : (us.drop (i * 3)).length = (n - i) * 3 := by rw [List.length_drop, hul, Nat.sub_mul]
  have hcpA : ∀ (W : World), (∀ x, W.cell? x = W1.cell? x) → (∀ x, W.frozen? x = W1.frozen? x) → ∀ ty dc, (Builtin.copy_ #[52, 52] ty #[.slice (some ⟨w.heap.size, i * 3, none⟩) (n + 1 - i) dc, .slice (some x) 1 vc]).run Try.prog W = .ok (goInt (1 : Nat)) (W.setCells w.heap.size (i * 3) vs) := fun W hWc hWf ty dc =>
    run_copy_rows W 52 52 ty 103 i0 w.heap.size (i * 3) (n + 1 - i) dc x 1 vc vs undPos hi0 1 (by simp only [Nat.min_def]; split <;> omega) (by rw [hvl, hz1])
      (fun j v hj => by rw [hWc]; exact hOv _ v (hvs j v hj))
      (fun j hj => by rw [hWc]; exact hN _ (by omega)) (fun j hj => by rw [hWf]; exact hNf _) h1v
  have hGn : n + 1 ≤ G := by rw [hG]; exact grownCap_ge w _ _ _
  have hG63 : G ≤ 9223372036854775807 := by
    have := grownCap_le_maxLen w (n + 1) c 103 (by unfold maxLen; omega)
    rw [← hG] at this
    unfold maxLen at this
    omega
  have hGi : ¬ (G = i) := by omega
  have hGim : ¬ (G = i + 1) := by omega
  have hci : ¬ (c = i) := by omega
  have hbN : g ≠ w.heap.size := by omega
  have hcpB : ∀ (W : World), (∀ x, W.cell? x = (W1.setCells w.heap.size (i * 3) vs).cell? x) → (∀ x, W.frozen? x = (W1.setCells w.heap.size (i * 3) vs).frozen? x) → ∀ ty dc sc, (Builtin.copy_ #[52, 52] ty #[.slice (some ⟨w.heap.size, (i + 1) * 3, none⟩) (n - i) dc, .slice (some ⟨g, i * 3, none⟩) (n - i) sc]).run Try.prog W = .ok (goInt (n - i : Nat)) (W.setCells w.heap.size ((i + 1) * 3) (us.drop (i * 3))) := fun W hWc hWf ty dc sc =>
    run_copy_rows W 52 52 ty 103 i0 w.heap.size ((i + 1) * 3) (n - i) dc ⟨g, i * 3, none⟩ (n - i) sc (us.drop (i * 3)) undPos hi0 (n - i) (by simp only [Nat.min_def]; split <;> omega) (by rw [hdl, hz1])
      (fun j v hj => by
        rw [Addr.add_lit, hWc, World.cell?_setCells_out _ _ _ _ _ (fun h _ => absurd h hbN)]
        exact hOb _ v (hc (i * 3 + j) v (by rwa [List.getElem?_drop] at hj)))
      (fun j hj => by rw [hWc]; exact some_setCells _ _ _ _ (fun t ht => hN _ (by omega)) _ (hN _ (by omega)))
      (fun j hj => by rw [hWf, World.frozen?_setCells]; exact hNf _) (fun v hv => h1 v (List.mem_of_mem_drop hv))
  subst hW1
  have hE1 : ∀ x, ((w.alloc (.cells ROW 103)).drew).cell? x = (w.drew.alloc (.cells ROW 103)).cell? x := fun x => rfl
  have hE2 : ∀ x, ((w.alloc (.cells ROW 103)).drew).frozen? x = (w.drew.alloc (.cells ROW 103)).frozen? x := fun x => rfl
  have hF1 : ∀ x, (((w.alloc (.cells ROW 103)).drew.setCells w.heap.size (i * 3) vs).drew).cell? x = ((w.drew.alloc (.cells ROW 103)).setCells w.heap.size (i * 3) vs).cell? x := fun x => rfl
  have hF2 : ∀ x, (((w.alloc (.cells ROW 103)).drew.setCells w.heap.size (i * 3) vs).drew).frozen? x = ((w.drew.alloc (.cells ROW 103)).setCells w.heap.size (i * 3) vs).frozen? x := fun x => rfl
  have hw1 : IntKind.i64.wrap ((i : Int) + 1) = (i : Int) + 1 := by rw [IntKind.wrap_i64]; omega
  have hb1 : (0 : Int) ≤ (i : Int) + 1 := by omega
  have htn : ((i : Int) + 1).toNat = i + 1 := by omega
  have hb3 : (i : Int) ≤ (n : Int) + 1 := by omega
  have hb6 : (i : Int) + 1 ≤ (n : Int) + 1 := by omega
  have hin : i ≤ n := by omega
  have hz2 : ¬ ((i : Int) = (n : Int)) := by omega
  have hz3 : (c : Int) < (n : Int) + 1 := by omega
  clear hkk hik hold hROW hG hRl hc hvs h1 h1v hOb hOv hN hNf hzl htl hdl hvl hul
  go_enter Try.func123, Try.ntmps123
  go_wp2_with (first
    | (at_builtin; refine Lib.wpList_append_run _ rfl _ _ _ _ rfl _ _ rfl rfl _ _ (hrz _) ?_)
    | (at_builtin; refine wpList_copy_run' _ rfl _ _ 52 52 rfl _ _ rfl rfl (hcpA _ hE1 hE2 _ _) ?_)
    | (at_builtin; refine wpList_copy_run' _ rfl _ _ 52 52 rfl _ _ rfl rfl (hcpB _ (fun _ => rfl) (fun _ => rfl) _ _ _) ?_))
  go_region_law_o (refine step_copy_run' rfl _ _ 52 52 rfl (.slice (some ⟨w.heap.size, (i + 1) * 3, none⟩) (n - i) (G - (i + 1))) (.slice (some ⟨g, i * 3, none⟩) (n - i) (c - i)) (by simp [Act.eval, Act.put]) (by simp [Act.eval, Act.put]) (hcpB _ hF1 hF2 3 (G - (i + 1)) (c - i)) ?_)
  go_wp2
  go_ret
  exact ⟨rfl, rfl⟩
end Go.Proofs.Ytbpbkmngbhgpfaa

namespace Go.Vc
open Go Go.RowKit
/-! what a well formed argument is known to be -/
def DT.okD : (t : DT) → t.den → Prop
  | .int k, n => (Lit.int k n).wf = true
  | .bool, _ => True
  | .str, s => s.size ≤ maxLen
  | .slc t, l => (∀ x ∈ l, t.okD x) ∧ l.length ≤ maxLen
  | .unit, _ => True
  | .pair a b, x => a.okD x.1 ∧ b.okD x.2
theorem wf_i64 {n : Int} (h : (Lit.int .i64 n).wf = true) : -9223372036854775808 ≤ n ∧ n ≤ 9223372036854775807 := by
  simp [Lit.wf, IntKind.min, IntKind.max, IntKind.signed, IntKind.bits] at h; omega
end Go.Vc

namespace Go.Vc
open Go Go.RowKit
/-! ### A row of one's own that is turned into another one by a call -/
theorem Ctx.turn2 {V w w' : World} {U0 : Nat → Prop} {L bs : List Nat} {o o' : Own} {os : List Own} {G : List (Value × R)} (H : Ctx V U0 L bs (o :: os) G w) (hb : ∀ b ∈ bs, b < w.heap.size)
    (h1 : w'.os = w.os) (h2 : w'.tape = w.tape) (h3 : w'.output = w.output) (h4 : w.heap.size ≤ w'.heap.size) (h5 : ∀ b, b < w.heap.size → b ∉ o.bl → w'.heap[b]? = w.heap[b]?)
    (h6 : ∀ b ∈ o'.bl, w.heap.size ≤ b ∨ b ∈ o.bl) (h7 : o'.bl.Nodup) (h8 : Later (Us U0 bs (o :: os)) (Us U0 bs (o' :: os)) w w' → o'.h (Us U0 bs (o' :: os)) w') : Ctx V U0 L bs (o' :: os) G w' := by
  have hol : ∀ b ∈ o.bl, b < w.heap.size := fun b hb => H.ltOwn (by rw [ownBl]; exact List.mem_append.2 (.inl hb))
  have hos : ∀ b ∈ ownBl os, b < w.heap.size := fun b hb => H.ltOwn (by rw [ownBl]; exact List.mem_append.2 (.inr hb))
  have hnd := List.nodup_append.1 H.nd
  have hnd2 := List.nodup_append.1 (show (o.bl ++ ownBl os).Nodup from hnd.2.1)
  have l : Later (Us U0 bs (o :: os)) (Us U0 bs (o' :: os)) w w' := by
    refine ⟨fun b hb hn => h5 b hb fun hm => hn (.inr (.inr (by rw [ownBl]; exact List.mem_append.2 (.inl hm)))), h4, fun b hb h => ?_⟩
    rcases h with h | h | h
    · exact .inl h
    · exact .inr (.inl h)
    · rw [ownBl] at h
      rcases List.mem_append.1 h with h | h
      · rcases h6 b h with h' | h'
        · omega
        · exact .inr (.inr (by rw [ownBl]; exact List.mem_append.2 (.inl h')))
      · exact .inr (.inr (by rw [ownBl]; exact List.mem_append.2 (.inr h)))
  refine ⟨h1.trans H.os_, h2.trans H.tape, h3.trans H.output, Nat.le_trans H.size h4, fun b hb hL => ?_, H.low, fun b hb => ?_, H.u0, ?_, fun x hx => ?_, H.facts.mono l⟩
  · rw [h5 b (Nat.lt_of_lt_of_le hb H.size) fun hm => ?_]
    · exact H.same b hb hL
    · rcases H.lowo b (by rw [ownBl]; exact List.mem_append.2 (.inl hm)) with h | h
      · omega
      · exact hL h
  · rw [ownBl] at hb
    rcases List.mem_append.1 hb with hb | hb
    · rcases h6 b hb with h | h
      · exact .inl (Nat.le_trans H.size h)
      · exact H.lowo b (by rw [ownBl]; exact List.mem_append.2 (.inl h))
    · exact H.lowo b (by rw [ownBl]; exact List.mem_append.2 (.inr hb))
  · show (bs ++ (o'.bl ++ ownBl os)).Nodup
    refine List.nodup_append.2 ⟨hnd.1, List.nodup_append.2 ⟨h7, hnd2.2.1, fun x hx y hy e => ?_⟩, fun x hx y hy e => ?_⟩
    · subst e
      rcases h6 x hx with h | h
      · have := hos x hy; omega
      · exact hnd2.2.2 x h x hy rfl
    · subst e
      rcases List.mem_append.1 hy with hy | hy
      · rcases h6 x hy with h | h
        · have := hb x hx; omega
        · exact hnd.2.2 x hx x (List.mem_append.2 (.inl h)) rfl
      · exact hnd.2.2 x hx x (List.mem_append.2 (.inr hy)) rfl
  · rcases List.mem_cons.1 hx with rfl | hx
    · exact h8 l
    · refine x.mono (H.own x (List.mem_cons_of_mem _ hx)) l fun b hb => h5 b (x.lt (H.own x (List.mem_cons_of_mem _ hx)) b hb) fun hm => ?_
      exact hnd2.2.2 b hm b (mem_ownBl.2 ⟨x, hx, hb⟩) rfl
/-- a call that takes one row of one's own, and values -/
theorem CtL.one {P : Program} {f : FuncId} {e k : Nat} {els : List (List R)} {las : List LA} {q : QR} (hla : ∀ {U w vs ars}, laH U w [] las vs ars → ars = [])
    (h : ∀ (U : Nat → Prop) (w : World) (a : Option Addr) (c : Nat) (vs : List Value), Ctx w U (oblk a) [] [Own.row e k a c els] [] w → (∀ b ∈ oblk a, ¬ U b) → laH (Us U [] [Own.row e k a c els]) w [] las vs [] →
      CallsX P f (Value.slice a els.length c :: vs).toArray w fun v w' => ∃ os, Ctx w U (oblk a) [] os [] w' ∧ q.h (Us U [] os) w' v os) :
    CtL P f (.row e k els :: las) [] (.q q) [] := by
  intro U w vs bl uss oss ars hbl H hU hlb hl
  have hbl0 : bl = [] := List.eq_nil_of_length_eq_zero (by simpa using hbl)
  subst hbl0
  simp only [lbH] at hlb
  obtain ⟨rfl, rfl⟩ := hlb
  simp only [laH] at hl
  obtain ⟨v, vs', o, ars', rfl, rfl, ho, hl⟩ := hl
  have h0 := hla hl
  subst h0
  simp only [QR.h] at ho
  obtain ⟨a, c, rfl, rfl⟩ := ho
  have e1 : objs [] ([] : List LB) [] ++ (([] : List (List Own)).flatten ++ ([Own.row e k a c els] ++ [])) = [Own.row e k a c els] := rfl
  have e2 : ([] : List Nat) ++ ownBl (([] : List (List Own)).flatten ++ ([Own.row e k a c els] ++ [])) = oblk a := by simp [ownBl, Own.row]
  rw [e1] at H hl
  rw [e2] at H hU
  refine (h U w a c vs' H hU hl).mono fun v w' ⟨os, H', hq⟩ => ⟨[], [], os, ?_, ⟨rfl, rfl⟩, ?_⟩
  · rw [e2]; simpa [objs] using H'
  · simpa [objs, lqH] using hq
end Go.Vc

namespace Go.Proofs.Ytbpbkmngbhgpfaa
open Go Go.Vc Go.RowKit Go.Lib
theorem hasBody122 : HasBody Try.prog 122 := ⟨_, Try.func122, by decide +kernel, rfl⟩
theorem hasBody123 : HasBody Try.prog 123 := ⟨_, Try.func123, by decide +kernel, rfl⟩
theorem del_ctL (els : List (List R)) (i j : Int) (h0 : 0 ≤ i) (hij : i < j) (hj : j ≤ els.length) :
    CtL Try.prog 122 [.row 103 3 els, .r (.val (.int .i64 i)), .r (.val (.int .i64 j))] [] (.q (.own 103 3 (els.take i.toNat ++ els.drop j.toNat))) [] := by
  obtain ⟨i, rfl⟩ := Int.eq_ofNat_of_zero_le h0
  obtain ⟨j, rfl⟩ := Int.eq_ofNat_of_zero_le (by omega : 0 ≤ j)
  have hij : i < j := by omega
  have hj : j ≤ els.length := by omega
  simp only [Int.toNat_natCast]
  refine CtL.one (fun h => ?_) fun U w a c vs H hU hl => ?_
  · simp only [laH] at h
    obtain ⟨_, _, _, _, _, _, _, _, _, h⟩ := h
    exact h
  · simp only [laH, R.h] at hl
    obtain ⟨_, _, rfl, rfl, _, _, rfl, rfl, rfl, _⟩ := hl
    obtain ⟨us, ho, hus, h1, hk⟩ := H.own _ (List.mem_singleton.2 rfl)
    obtain ⟨hxl, ho⟩ := ho
    rcases ho with ⟨_, hn⟩ | ⟨g, cap, cur, heq, hbase, hg, hn1, hn2, hn3, hn4⟩
    · omega
    simp only [Value.slice.injEq] at heq
    obtain ⟨rfl, _, rfl⟩ := heq
    have hgl : g < w.heap.size := (Array.getElem?_eq_some_iff.1 hg).1
    have hc : ∀ t u, us[t]? = some u → w.cell? ⟨g, t, none⟩ = some u := fun t u ht => by
      have ht' : t < us.length := (List.getElem?_eq_some_iff.1 ht).1
      have e1 : (cur.toList.take (els.length * 3))[t]? = us[t]? := by rw [hn4]
      rw [List.getElem?_take_of_lt (by omega), ht, Array.getElem?_toList] at e1
      simp [World.cell?, hg, e1]
    have hf : ∀ t, w.frozen? ⟨g, t, none⟩ = false := fun t => by simp [World.frozen?, hg]
    have hm : c ≤ 9223372036854775807 := by rw [maxLen_eq] at hn2; exact hn2
    refine ⟨.inl ⟨hasBody122, (del_raw g els.length c i j us w hxl hc h1 hf hij hj hn1 hm).mono fun e w' ⟨he, hw⟩ => ⟨_, he, ?_⟩⟩⟩
    obtain ⟨cur1, hg1, hs1⟩ := wset_at (o := 0 + i * 3) (vs := us.drop (j * 3)) (w := w.drew) hg
    obtain ⟨cur2, hg2, hs2⟩ := wset_at (o := (i + (els.length - j)) * 3) (vs := (Builtin.zeroCells zPos.cells (els.length - (i + (els.length - j)))).toList) hg1
    obtain ⟨a1, a2, a3, a4⟩ := wset_rest g (0 + i * 3) (us.drop (j * 3)) w.drew
    obtain ⟨b1, b2, b3, b4⟩ := wset_rest g ((i + (els.length - j)) * 3) (Builtin.zeroCells zPos.cells (els.length - (i + (els.length - j)))).toList (w.drew.setCells g (0 + i * 3) (us.drop (j * 3)))
    have hel : (els.take i ++ els.drop j).length = i + (els.length - j) := by rw [List.length_append, List.length_take, List.length_drop]; omega
    have hkk : ∀ l ∈ els.take i ++ els.drop j, l.length = 3 := fun l hl => (List.mem_append.1 hl).elim (fun h => hk l (List.mem_of_mem_take h)) fun h => hk l (List.mem_of_mem_drop h)
    have hdl : (us.drop (j * 3)).length = (els.length - j) * 3 := by rw [List.length_drop, hxl, Nat.sub_mul]
    have htl : (us.take (i * 3)).length = i * 3 := by rw [List.length_take, hxl]; omega
    refine ⟨[Own.row 103 3 (some ⟨g, 0, none⟩) c (els.take i ++ els.drop j)], ?_, ?_⟩
    · have H0 : Ctx w U (oblk (some ⟨g, 0, none⟩)) [] (Own.row 103 3 (some ⟨g, 0, none⟩) c els :: []) [] w := H
      rw [hw]
      refine H0.turn2 (by simp) (b1.trans a1) (b2.trans a2) (b3.trans a3) (by rw [b4, a4]; exact Nat.le_refl _) (fun b hb hn => ?_) (fun b hb => .inr hb) (by simp [Own.row, oblk]) fun l => ?_
      · have hne : b ≠ g := by simpa [Own.row, oblk] using hn
        rw [wset_ne hne, wset_ne hne]; rfl
      · refine rowH hg2 (by rw [hs2, hs1, hn3]) (xs := us.take (i * 3) ++ us.drop (j * 3)) (fun t u ht => ?_) ?_ (fun u hu => (List.mem_append.1 hu).elim (fun h => h1 u (List.mem_of_mem_take h)) fun h => h1 u (List.mem_of_mem_drop h)) hkk ?_ (by omega) hn2
        · have hlen : t < i * 3 + (els.length - j) * 3 := by have := (List.getElem?_eq_some_iff.1 ht).1; rw [List.length_append, htl, hdl] at this; exact this
          rw [World.cell?_setCells_out g _ _ _ _ (fun _ _ => by show t < (i + (els.length - j)) * 3 ∨ _; omega)]
          by_cases h3 : t < i * 3
          · rw [List.getElem?_append_left (by omega), List.getElem?_take_of_lt h3] at ht
            rw [World.cell?_setCells_out g _ _ _ _ (fun _ _ => by show t < 0 + i * 3 ∨ _; omega)]
            exact hc t u ht
          · rw [List.getElem?_append_right (by omega), htl] at ht
            have h4 : t - i * 3 < (us.drop (j * 3)).length := by omega
            have := World.cell?_setCells_in g (us.drop (j * 3)) (0 + i * 3) w.drew (fun q hq => by
              show (w.cell? _).isSome = true
              rw [hc _ _ (List.getElem?_eq_getElem (by omega))]; rfl) (t - i * 3) h4
            rw [show 0 + i * 3 + (t - i * 3) = t by omega] at this
            rw [this, ← ht, List.getElem?_eq_getElem h4]
        · rw [List.flatten_append, flat_take hk i (by omega), flat_drop hk j hj]
          exact listH_app (listH_mono l _ (listH_take _ hus)) (listH_mono l _ (listH_drop _ hus))
        · rw [List.length_append, htl, hdl, hel, Nat.add_mul]
    · simp only [QR.h]
      exact ⟨_, _, by rw [hel], rfl⟩
end Go.Proofs.Ytbpbkmngbhgpfaa

namespace Go.Vc
open Go Go.RowKit Go.Lib
theorem cellsH_vals {U : Nat → Prop} {w : World} {x : Addr} : ∀ {rs : List R} {off : Nat}, cellsH U w (some x) off rs → ∃ us, listH U w rs us ∧ (∀ u ∈ us, u.oneCell' = true) ∧ ∀ t u, us[t]? = some u → w.cell? (x.add (off + t)) = some u
  | [], off, _ => ⟨[], by simp [listH], by simp, by simp⟩
  | r :: rs, off, h => by
    simp only [cellsH] at h
    obtain ⟨⟨y, u, hy, _, _, hc, h1, hr⟩, h⟩ := h
    cases hy
    obtain ⟨us, h2, h3, h4⟩ := cellsH_vals h
    refine ⟨u :: us, by simp only [listH]; exact ⟨u, us, rfl, hr, h2⟩, fun v hv => ?_, fun t v ht => ?_⟩
    · rcases List.mem_cons.1 hv with rfl | hv
      · exact h1
      · exact h3 v hv
    · cases t with
      | zero => simp only [List.getElem?_cons_zero, Option.some.injEq] at ht; subst ht; simpa using hc
      | succ t =>
        have := h4 t v (by simpa using ht)
        rwa [show off + 1 + t = off + (t + 1) by omega] at this
/-- what stands in a row into which one element is put -/
theorem put_cells {W : World} {g i k n : Nat} {us vs : List Value} (hu : us.length = n * k) (hv : vs.length = k) (hi : i ≤ n)
    (hA : ∀ t u, t < i * k → us[t]? = some u → W.cell? ⟨g, t, none⟩ = some u) (hB : ∀ t u, vs[t]? = some u → W.cell? ⟨g, i * k + t, none⟩ = some u)
    (hC : ∀ t u, (us.drop (i * k))[t]? = some u → W.cell? ⟨g, (i + 1) * k + t, none⟩ = some u) :
    ∀ t u, (us.take (i * k) ++ (vs ++ us.drop (i * k)))[t]? = some u → W.cell? ⟨g, t, none⟩ = some u := by
  intro t u ht
  have hik : i * k ≤ n * k := Nat.mul_le_mul_right k hi
  have htl : (us.take (i * k)).length = i * k := by rw [List.length_take, hu]; omega
  by_cases h1 : t < i * k
  · rw [List.getElem?_append_left (by omega), List.getElem?_take_of_lt h1] at ht
    exact hA t u h1 ht
  · rw [List.getElem?_append_right (by omega), htl] at ht
    by_cases h2 : t - i * k < vs.length
    · rw [List.getElem?_append_left h2] at ht
      have := hB _ u ht
      rwa [show i * k + (t - i * k) = t by omega] at this
    · rw [List.getElem?_append_right (by omega)] at ht
      have := hC _ u ht
      rw [Nat.add_mul, Nat.one_mul, hv] at this
      rwa [show i * k + k + (t - i * k - k) = t by omega] at this
/-- a row behind a call that put one element into it -/
theorem Ctx.putOne {w w' : World} {U0 : Nat → Prop} {a : Option Addr} {e k c g c' i : Nat} {els : List (List R)} {v : List R} {us vs : List Value} {cur : Array Value}
    (H : Ctx w U0 (oblk a) [] [Own.row e k a c els] [] w) (hus : listH (Us U0 [] [Own.row e k a c els]) w els.flatten us) (h1 : ∀ u ∈ us, u.oneCell' = true) (hk : ∀ l ∈ els, l.length = k)
    (hvs : listH (Us U0 [] [Own.row e k a c els]) w v vs) (h1v : ∀ u ∈ vs, u.oneCell' = true) (hv : v.length = k) (hi : i ≤ els.length)
    (e1 : w'.os = w.os) (e2 : w'.tape = w.tape) (e3 : w'.output = w.output) (e4 : w.heap.size ≤ w'.heap.size) (e5 : ∀ b, b < w.heap.size → b ∉ oblk a → w'.heap[b]? = w.heap[b]?) (e6 : w.heap.size ≤ g ∨ g ∈ oblk a)
    (hg : w'.heap[g]? = some (.cells cur e (0, 0))) (hs : cur.size = c' * k) (hc : ∀ t u, (us.take (i * k) ++ (vs ++ us.drop (i * k)))[t]? = some u → w'.cell? ⟨g, t, none⟩ = some u) (hn : els.length + 1 ≤ c') (hm : c' ≤ maxLen) :
    ∃ os, Ctx w U0 (oblk a) [] os [] w' ∧ (QR.own e k (els.take i ++ v :: els.drop i)).h (Us U0 [] os) w' (.slice (some ⟨g, 0, none⟩) (els.length + 1) c') os := by
  have hul : us.length = els.length * k := by rw [listH_length hus, flat_len hk]
  have hvl : vs.length = k := by rw [listH_length hvs, hv]
  have hel : (els.take i ++ v :: els.drop i).length = els.length + 1 := by rw [List.length_append, List.length_cons, List.length_take, List.length_drop]; omega
  have hkk : ∀ l ∈ els.take i ++ v :: els.drop i, l.length = k := fun l hl => by
    rcases List.mem_append.1 hl with h | h
    · exact hk l (List.mem_of_mem_take h)
    · rcases List.mem_cons.1 h with rfl | h
      · exact hv
      · exact hk l (List.mem_of_mem_drop h)
  refine ⟨[Own.row e k (some ⟨g, 0, none⟩) c' (els.take i ++ v :: els.drop i)], ?_, ?_⟩
  · have H0 : Ctx w U0 (oblk a) [] (Own.row e k a c els :: []) [] w := H
    refine H0.turn2 (by simp) e1 e2 e3 e4 e5 (fun b hb => ?_) (by simp [Own.row, oblk]) fun l => ?_
    · simp only [Own.row, oblk, List.mem_singleton] at hb
      subst hb; exact e6
    · refine rowH hg hs (xs := us.take (i * k) ++ (vs ++ us.drop (i * k))) hc ?_ (fun u hu => ?_) hkk ?_ (by omega) hm
      · rw [List.flatten_append, List.flatten_cons, flat_take hk i hi, flat_drop hk i hi]
        exact listH_app (listH_mono l _ (listH_take _ hus)) (listH_app (listH_mono l _ hvs) (listH_mono l _ (listH_drop _ hus)))
      · rcases List.mem_append.1 hu with h | h
        · exact h1 u (List.mem_of_mem_take h)
        · rcases List.mem_append.1 h with h | h
          · exact h1v u h
          · exact h1 u (List.mem_of_mem_drop h)
      · have hik : i * k ≤ els.length * k := Nat.mul_le_mul_right k hi
        rw [List.length_append, List.length_append, List.length_take, List.length_drop, hul, hvl, hel, Nat.succ_mul]; omega
  · simp only [QR.h]
    exact ⟨_, _, by rw [hel], rfl⟩
end Go.Vc
namespace Go.Proofs.Ytbpbkmngbhgpfaa
open Go Go.Vc Go.RowKit Go.Lib
theorem ins_ctL (els : List (List R)) (v : List R) (i : Int) (h0 : 0 ≤ i) (hi : i ≤ els.length) (hv : v.length = 3) (hbig : (els.length + 1) * 40 ≤ 140737488355328) :
    CtL Try.prog 123 [.row 103 3 els, .r (.val (.int .i64 i)), .r (.sl 3 [v])] [] (.q (.own 103 3 (els.take i.toNat ++ v :: els.drop i.toNat))) [] := by
  obtain ⟨i, rfl⟩ := Int.eq_ofNat_of_zero_le h0
  have hi : i ≤ els.length := by omega
  simp only [Int.toNat_natCast]
  refine CtL.one (fun h => ?_) fun U w a c vs0 H hU hl => ?_
  · simp only [laH] at h
    obtain ⟨_, _, _, _, _, _, _, _, _, h⟩ := h
    exact h
  · simp only [laH, R.h] at hl
    obtain ⟨_, _, rfl, rfl, _, _, rfl, ⟨av, vc, rfl, _, _, hrow⟩, rfl, _⟩ := hl
    simp only [rowsH] at hrow
    obtain ⟨_, hcl, _⟩ := hrow
    obtain ⟨x, hxU, hxw, hcl⟩ : ∃ x, ¬ Us U [] [Own.row 103 3 a c els] x.block ∧ x.block < w.heap.size ∧ av = some x ∧ cellsH (Us U [] [Own.row 103 3 a c els]) w (some x) 0 v := by
      cases v with
      | nil => simp at hv
      | cons r rs =>
        have hcl2 := hcl
        simp only [cellsH] at hcl
        obtain ⟨⟨x, u, rfl, h1, h2, _⟩, _⟩ := hcl
        exact ⟨x, h1, h2, rfl, hcl2⟩
    obtain ⟨rfl, hcl⟩ := hcl
    obtain ⟨vs, hvs, h1v, hcv⟩ := cellsH_vals hcl
    simp only [Nat.zero_add] at hcv
    have hvl : vs.length = 3 := by rw [listH_length hvs, hv]
    obtain ⟨us, ho, hus, h1, hk⟩ := H.own _ (List.mem_singleton.2 rfl)
    obtain ⟨hxl, ho⟩ := ho
    have hzl : ∀ m : Nat, (Builtin.zeroCells zPos.cells m).size = m * 3 := fun m => by have := zPos_len m; simpa using this
    -- a new row behind what stood there
    have grow : (∀ b, a = some b → b.spot = none) → (a = none → els.length = 0) → (∀ b, a = some b → ∀ t u, us[t]? = some u → w.cell? (b.add t) = some u) → els.length ≤ c → c < els.length + 1 → i = els.length →
        CallsX Try.prog 123 (Value.slice a els.length c :: [Value.int .i64 (i : Int), .slice (some x) 1 vc]).toArray w fun v_1 w' => ∃ os, Ctx w U (oblk a) [] os [] w' ∧ (QR.own 103 3 (els.take i ++ v :: els.drop i)).h (Us U [] os) w' v_1 os := by
      intro hsp hnil hc hnc hroom hie
      subst hie
      refine ⟨.inl ⟨hasBody123, (ins_end_grow a els.length c x vc us vs w hroom hnc hbig hxl hvl hnil hsp hc hcv h1v).mono fun e w' ⟨he, hw⟩ => ⟨_, he, ?_⟩⟩⟩
      have hC := grownCap_ge w (els.length + 1) c 103
      have hC2 := grownCap_le_maxLen w (els.length + 1) c 103 (by rw [maxLen_eq]; omega)
      rw [hw]
      generalize grownCap w (els.length + 1) c 103 = C at *
      refine Ctx.putOne (us := us) (vs := vs) H hus h1 hk hvs h1v hv hi rfl rfl rfl (by simp) (fun b hb _ => heap_push w.drew _ b hb) (.inl (Nat.le_refl _)) (heap_alloc_new w.drew _) ?_ ?_ hC hC2
      · rw [Array.size_append, hzl, List.size_toArray, List.length_append, hxl, hvl]; omega
      · have hcell : ∀ t u, (us ++ vs)[t]? = some u → (w.drew.alloc (.cells ((us ++ vs).toArray ++ Builtin.zeroCells zPos.cells (C - (els.length + 1))) 103)).cell? ⟨w.heap.size, t, none⟩ = some u := fun t u ht => by
          have hlt := (List.getElem?_eq_some_iff.1 ht).1
          rw [World.cell?_alloc_at (w := w.drew) _ _ w.heap.size t rfl, Array.getElem?_append_left (by simpa using hlt), List.getElem?_toArray]
          exact ht
        rw [← hxl, List.take_length, List.drop_length, List.append_nil]
        exact hcell
    rcases ho with ⟨he, hn⟩ | ⟨g, cap, cur, heq, hbase, hg, hn1, hn2, hn3, hn4⟩
    · simp only [Value.slice.injEq] at he
      obtain ⟨rfl, _, rfl⟩ := he
      refine grow (by simp) (fun _ => hn) (by simp) (by omega) (by omega) (by omega)
    simp only [Value.slice.injEq] at heq
    obtain ⟨rfl, _, rfl⟩ := heq
    have hgl : g < w.heap.size := (Array.getElem?_eq_some_iff.1 hg).1
    have hxg : x.block ≠ g := fun e => hxU (.inr (.inr (by rw [e]; simp [ownBl, Own.row, oblk])))
    have hc : ∀ t u, us[t]? = some u → w.cell? ⟨g, t, none⟩ = some u := fun t u ht => by
      have ht' : t < us.length := (List.getElem?_eq_some_iff.1 ht).1
      have e1 : (cur.toList.take (els.length * 3))[t]? = us[t]? := by rw [hn4]
      rw [List.getElem?_take_of_lt (by omega), ht, Array.getElem?_toList] at e1
      simp [World.cell?, hg, e1]
    have hsp : ∀ t, t < c * 3 → (w.cell? ⟨g, t, none⟩).isSome = true := fun t ht => by
      simp [World.cell?, hg, hn3, ht]
    have hf : ∀ t, w.frozen? ⟨g, t, none⟩ = false := fun t => by simp [World.frozen?, hg]
    have hm : c ≤ 9223372036854775807 := by rw [maxLen_eq] at hn2; exact hn2
    by_cases hroom : els.length + 1 ≤ c
    · by_cases hie : i = els.length
      · subst hie
        refine ⟨.inl ⟨hasBody123, (ins_end_room g els.length c x vc vs w hroom hm hvl hsp hf hcv h1v).mono fun e w' ⟨he, hw⟩ => ⟨_, he, ?_⟩⟩⟩
        obtain ⟨cur1, hg1, hs1⟩ := wset_at (o := els.length * 3) (vs := vs) (w := w) hg
        obtain ⟨a1, a2, a3, a4⟩ := wset_rest g (els.length * 3) vs w
        rw [hw]
        refine Ctx.putOne (us := us) (vs := vs) H hus h1 hk hvs h1v hv hi a1 a2 a3 (by rw [a4]; exact Nat.le_refl _) (fun b hb hn => wset_ne (by simpa [oblk] using hn)) (.inr (by simp [oblk])) hg1 (by rw [hs1, hn3]) ?_ hroom hn2
        refine put_cells hxl hvl (Nat.le_refl _) (fun t u ht hu => ?_) (fun t u hu => ?_) (fun t u hu => ?_)
        · rw [World.cell?_setCells_out g _ _ _ _ (fun _ _ => .inl ht)]; exact hc t u hu
        · have h4 := (List.getElem?_eq_some_iff.1 hu).1
          have := World.cell?_setCells_in g vs (els.length * 3) w (fun q hq => hsp _ (by omega)) t h4
          rw [this, ← hu, List.getElem?_eq_getElem h4]
        · rw [List.drop_eq_nil_of_le (by omega)] at hu; simp at hu
      · have hlt : i < els.length := by omega
        refine ⟨.inl ⟨hasBody123, (ins_shift g els.length c i x vc us vs cur 103 w hlt hroom hm hxl hvl hg hxg hc h1 hsp hf hcv h1v).mono fun e w' ⟨he, hw⟩ => ⟨_, he, ?_⟩⟩⟩
        obtain ⟨cur1, hg1, hs1⟩ := wset_at (o := (i + 1) * 3) (vs := us.drop (i * 3)) (w := w.drew) hg
        obtain ⟨cur2, hg2, hs2⟩ := wset_at (o := i * 3) (vs := vs) hg1
        obtain ⟨a1, a2, a3, a4⟩ := wset_rest g ((i + 1) * 3) (us.drop (i * 3)) w.drew
        obtain ⟨b1, b2, b3, b4⟩ := wset_rest g (i * 3) vs (w.drew.setCells g ((i + 1) * 3) (us.drop (i * 3)))
        have hdl : (us.drop (i * 3)).length = (els.length - i) * 3 := by rw [List.length_drop, hxl, Nat.sub_mul]
        have hsp1 : ∀ t, t < c * 3 → ((w.drew.setCells g ((i + 1) * 3) (us.drop (i * 3))).cell? ⟨g, t, none⟩).isSome = true := fun t ht =>
          some_setCells g _ _ w.drew (fun t ht => hsp _ (by omega)) _ (hsp t ht)
        rw [hw]
        refine Ctx.putOne (us := us) (vs := vs) H hus h1 hk hvs h1v hv hi (b1.trans a1) (b2.trans a2) (b3.trans a3) (by rw [b4, a4]; exact Nat.le_refl _) (fun b hb hn => ?_) (.inr (by simp [oblk])) hg2 (by rw [hs2, hs1, hn3]) ?_ hroom hn2
        · have hne : b ≠ g := by simpa [oblk] using hn
          rw [wset_ne hne, wset_ne hne]; rfl
        · refine put_cells hxl hvl hi (fun t u ht hu => ?_) (fun t u hu => ?_) (fun t u hu => ?_)
          · rw [World.cell?_setCells_out g _ _ _ _ (fun _ _ => .inl ht), World.cell?_setCells_out g _ _ _ _ (fun _ _ => .inl (by show t < (i + 1) * 3; omega))]
            exact hc t u hu
          · have h4 := (List.getElem?_eq_some_iff.1 hu).1
            have := World.cell?_setCells_in g vs (i * 3) (w.drew.setCells g ((i + 1) * 3) (us.drop (i * 3))) (fun q hq => hsp1 _ (by omega)) t h4
            rw [this, ← hu, List.getElem?_eq_getElem h4]
          · have h4 := (List.getElem?_eq_some_iff.1 hu).1
            rw [World.cell?_setCells_out g _ _ _ _ (fun _ _ => .inr (by show i * 3 + vs.length ≤ (i + 1) * 3 + t; omega))]
            have := World.cell?_setCells_in g (us.drop (i * 3)) ((i + 1) * 3) w.drew (fun q hq => hsp _ (by omega)) t h4
            rw [this, ← hu, List.getElem?_eq_getElem h4]
    · by_cases hie : i = els.length
      · refine grow (fun b hb => by cases hb; rfl) (by simp) (fun b hb t u hu => ?_) hn1 (by omega) hie
        cases hb
        rw [Addr.add_lit, Nat.zero_add]
        exact hc t u hu
      · have hlt : i < els.length := by omega
        refine ⟨.inl ⟨hasBody123, (ins_grow g els.length c i x vc us vs w hlt (by omega) hn1 hm hbig hxl hvl hc h1 hcv h1v).mono fun e w' ⟨he, hw⟩ => ⟨_, he, ?_⟩⟩⟩
        have hC := grownCap_ge w (els.length + 1) c 103
        have hC2 := grownCap_le_maxLen w (els.length + 1) c 103 (by rw [maxLen_eq]; omega)
        rw [hw]
        generalize grownCap w (els.length + 1) c 103 = C at *
        generalize hROW : (us.take (i * 3)).toArray ++ Builtin.zeroCells zPos.cells (els.length + 1 - i) ++ Builtin.zeroCells zPos.cells (C - (els.length + 1)) = ROW
        have htl : (us.take (i * 3)).length = i * 3 := by rw [List.length_take, hxl]; omega
        have hRs : ROW.size = C * 3 := by rw [← hROW, Array.size_append, Array.size_append, hzl, hzl, List.size_toArray, htl]; omega
        have hRt : ∀ t, t < i * 3 → ROW[t]? = us[t]? := fun t ht => by
          rw [← hROW, Array.append_assoc, Array.getElem?_append_left (by rw [List.size_toArray]; omega), List.getElem?_toArray, List.getElem?_take_of_lt ht]
        have hg0 : (w.alloc (.cells ROW 103)).drew.heap[w.heap.size]? = some (.cells ROW 103 (0, 0)) := heap_alloc_new w _
        obtain ⟨cur1, hg1, hs1⟩ := wset_at (o := i * 3) (vs := vs) hg0
        have hg1' : ((w.alloc (.cells ROW 103)).drew.setCells w.heap.size (i * 3) vs).drew.heap[w.heap.size]? = some (.cells cur1 103 (0, 0)) := hg1
        obtain ⟨cur2, hg2, hs2⟩ := wset_at (o := (i + 1) * 3) (vs := us.drop (i * 3)) hg1'
        obtain ⟨a1, a2, a3, a4⟩ := wset_rest w.heap.size (i * 3) vs (w.alloc (.cells ROW 103)).drew
        obtain ⟨b1, b2, b3, b4⟩ := wset_rest w.heap.size ((i + 1) * 3) (us.drop (i * 3)) ((w.alloc (.cells ROW 103)).drew.setCells w.heap.size (i * 3) vs).drew
        have hdl : (us.drop (i * 3)).length = (els.length - i) * 3 := by rw [List.length_drop, hxl, Nat.sub_mul]
        have hcell0 : ∀ t, (w.alloc (.cells ROW 103)).drew.cell? ⟨w.heap.size, t, none⟩ = ROW[t]? := fun t => World.cell?_alloc_at (w := w) ROW _ w.heap.size t rfl
        have hsp0 : ∀ t, t < C * 3 → ((w.alloc (.cells ROW 103)).drew.cell? ⟨w.heap.size, t, none⟩).isSome = true := fun t ht => by
          rw [hcell0, Array.getElem?_eq_getElem (by omega)]; rfl
        have hsp1 : ∀ t, t < C * 3 → (((w.alloc (.cells ROW 103)).drew.setCells w.heap.size (i * 3) vs).drew.cell? ⟨w.heap.size, t, none⟩).isSome = true := fun t ht =>
          some_setCells w.heap.size _ _ (w.alloc (.cells ROW 103)).drew (fun t ht => hsp0 _ (by omega)) _ (hsp0 t ht)
        refine Ctx.putOne (us := us) (vs := vs) H hus h1 hk hvs h1v hv hi (b1.trans a1) (b2.trans a2) (b3.trans a3) (by rw [b4]; show _ ≤ (World.setCells _ _ _ _).heap.size; rw [a4]; simp [World.drew]) (fun b hb hn => ?_) (.inl (Nat.le_refl _)) hg2 (by rw [hs2, hs1, hRs]) ?_ hC hC2
        · have hne : b ≠ w.heap.size := by omega
          rw [wset_ne hne]
          show ((w.alloc (.cells ROW 103)).drew.setCells w.heap.size (i * 3) vs).heap[b]? = _
          rw [wset_ne hne]
          exact heap_push w _ b hb
        · refine put_cells hxl hvl hi (fun t u ht hu => ?_) (fun t u hu => ?_) (fun t u hu => ?_)
          · rw [World.cell?_setCells_out _ _ _ _ _ (fun _ _ => .inl (by show t < (i + 1) * 3; omega))]
            show ((w.alloc (.cells ROW 103)).drew.setCells w.heap.size (i * 3) vs).cell? _ = _
            rw [World.cell?_setCells_out _ _ _ _ _ (fun _ _ => .inl ht), hcell0, hRt t ht]
            exact hu
          · have h4 := (List.getElem?_eq_some_iff.1 hu).1
            rw [World.cell?_setCells_out _ _ _ _ _ (fun _ _ => .inl (by show i * 3 + t < (i + 1) * 3; omega))]
            show ((w.alloc (.cells ROW 103)).drew.setCells w.heap.size (i * 3) vs).cell? _ = _
            have := World.cell?_setCells_in w.heap.size vs (i * 3) (w.alloc (.cells ROW 103)).drew (fun q hq => hsp0 _ (by omega)) t h4
            rw [this, ← hu, List.getElem?_eq_getElem h4]
          · have h4 := (List.getElem?_eq_some_iff.1 hu).1
            have := World.cell?_setCells_in w.heap.size (us.drop (i * 3)) ((i + 1) * 3) ((w.alloc (.cells ROW 103)).drew.setCells w.heap.size (i * 3) vs).drew (fun q hq => hsp1 _ (by omega)) t h4
            rw [this, ← hu, List.getElem?_eq_getElem h4]
end Go.Proofs.Ytbpbkmngbhgpfaa

namespace Go.Proofs.Ytbpbkmngbhgpfaa
open Go Go.Vc Go.RowKit
@[reducible] def tP0 : DT := (.pair tU0 (.pair (.slc tU0) .unit))
def delO (l : List tP0.den) (i j : Int) : Option (List tP0.den × Unit) := if 0 ≤ i ∧ i < j ∧ j ≤ l.length then some (l.take i.toNat ++ l.drop j.toNat, ()) else none
def insO (l : List tP0.den) (i : Int) (v : List tP0.den) : Option (List tP0.den × Unit) :=
  if 0 ≤ i ∧ i ≤ l.length ∧ (l.length + 1) * 40 ≤ 140737488355328 then (match v with | [x] => some (l.take i.toNat ++ x :: l.drop i.toNat, ()) | _ => none) else none
noncomputable def delete_s : LS := ⟨[.row 103 tP0, .v (.int .i64), .v (.int .i64)], [], [], .q (.own 103 tP0), fun z => delO z.2.2.1 z.1 z.2.1⟩
noncomputable def insert_s : LS := ⟨[.row 103 tP0, .v (.int .i64), .v (.slc tP0)], [], [], .q (.own 103 tP0), fun z => insO z.2.2.1 z.1 z.2.1⟩
theorem delete_ok : ECok Try.prog 122 (.ls delete_s) := by
  refine ⟨rfl, rfl, rfl, fun z o h => ?_⟩
  replace h : delO z.2.2.1 z.1 z.2.1 = some o := h
  unfold delO at h
  split at h
  · rename_i hc
    have h := Option.some.inj h
    subst h
    have := del_ctL (z.2.2.1.map fun x => tP0.enc x) z.1 z.2.1 hc.1 hc.2.1 (by rw [List.length_map]; exact hc.2.2)
    rw [← List.map_take, ← List.map_drop, ← List.map_append] at this
    exact this
  · cases h
theorem insert_ok : ECok Try.prog 123 (.ls insert_s) := by
  refine ⟨rfl, rfl, rfl, fun z o h => ?_⟩
  replace h : insO z.2.2.1 z.1 z.2.1 = some o := h
  unfold insO at h
  split at h
  · rename_i hc
    obtain ⟨i, v, l, u⟩ := z
    simp only at h hc
    split at h
    · rename_i x
      have h := Option.some.inj h
      subst h
      have := ins_ctL (l.map fun x => tP0.enc x) (tP0.enc x) i hc.1 (by rw [List.length_map]; exact hc.2.1) rfl (by rw [List.length_map]; exact hc.2.2)
      rw [← List.map_take, ← List.map_drop] at this
      have e : (l.take i.toNat).map (fun x => tP0.enc x) ++ tP0.enc x :: (l.drop i.toNat).map (fun x => tP0.enc x) = (l.take i.toNat ++ x :: l.drop i.toNat).map fun x => tP0.enc x := by rw [List.map_append, List.map_cons]
      rw [e] at this
      exact this
    · cases h
  · cases h
#print axioms insert_ok
#print axioms delete_ok
end Go.Proofs.Ytbpbkmngbhgpfaa

namespace Go.Proofs.Ytbpbkmngbhgpfaa
open Go Go.Vc Go.RowKit
set_option maxRecDepth 100000
@[reducible] def tAUnit : DT := (.pair (.int .i64) (.pair (.int .i64) .unit))
abbrev AUnit' := Int × Int × Unit
@[reducible] def tAFlow : DT := (.pair tAUnit (.pair (.int .i64) .unit))
abbrev AFlow' := AUnit' × Int × Unit
@[reducible] def tAPos : DT := (.pair tAUnit (.pair (.slc tAUnit) .unit))
abbrev APos' := AUnit' × (List AUnit') × Unit
@[reducible] def tWideWide : DT := (.pair (.int .i64) (.pair (.int .u64) .unit))
abbrev WideWide' := Int × Int × Unit
@[reducible] def tNovationref01Big : DT := (.pair .bool (.pair (.slc (.int .u8)) .unit))
abbrev Novationref01Big' := Bool × (List Int) × Unit
@[reducible] def tAInst : DT := (.pair (.int .i64) (.pair (.int .i64) (.pair (.int .i64) (.pair (.int .i64) (.pair (.slc (.int .i64)) .unit)))))
abbrev AInst' := Int × Int × Int × Int × (List Int) × Unit
@[reducible] def tWideSize : DT := (.pair (.int .u64) (.pair (.int .u64) .unit))
abbrev WideSize' := Int × Int × Unit
@[reducible] def tDealDesk : DT := (.pair (.slc tAPos) (.pair (.slc tAFlow) .unit))
abbrev DealDesk' := (List APos') × (List AFlow') × Unit
noncomputable def law17_FewW (W : Wd) (l : List AFlow') : Option (List AFlow') := 
 W.cnd (decide (20 < (l.length : Int))) (W.bnd 20 l.length fun h1 => some (l.take h1))
  (some l)
noncomputable def law17_Few (l : List AFlow') : Option (List AFlow') := law17_FewW stdW l
noncomputable def law17_Few_s : ES := ⟨(.pair (.slc tAFlow) .unit), (.v (.slc tAFlow)), fun x => law17_Few x.1⟩
theorem law17_Few_ok : ECok Try.prog 11 (.es law17_Few_s)   := es_ok (A := (.pair (.slc tAFlow) .unit)) (Q := (.v (.slc tAFlow))) (fun W x => law17_FewW W x.1) [] trivial [] [] [] Try.func11 rfl (by decide +kernel) rfl rfl (fun W x => by kernel_rfl)
noncomputable def acct_LessW (W : Wd) (a : AUnit') (b : AUnit') : Option Bool := 
 W.cnd (a.1 != b.1) (some (decide (a.1 < b.1)))
  (some (decide (a.2.1 < b.2.1)))
noncomputable def acct_Less (a : AUnit') (b : AUnit') : Option Bool := acct_LessW stdW a b
noncomputable def acct_Less_s : ES := ⟨(.pair tAUnit (.pair tAUnit .unit)), (.v .bool), fun x => acct_Less x.1 x.2.1⟩
theorem acct_Less_ok : ECok Try.prog 56 (.es acct_Less_s)   := es_ok (A := (.pair tAUnit (.pair tAUnit .unit))) (Q := (.v .bool)) (fun W x => acct_LessW W x.1 x.2.1) [] trivial [] [] [] Try.func56 rfl (by decide +kernel) rfl rfl (fun W x => by kernel_rfl)
noncomputable def purse_IsW (W : Wd) (l : List AFlow') : Option Bool := 
 W.loop (fun (z1 : Int × Unit) again2 => 
  W.cnd (decide (z1.1 < (l.length : Int))) (W.idx l z1.1 fun x3 => 
   W.join (fun (z4 : Bool × Unit) => 
    W.cnd z4.1 (some false)
     ((again2 ((IntKind.i64.wrap (z1.1 + 1)), ()))))
    fun k5 => 
    W.cnd (x3.2.1 == 0) ((k5 (true, ())))
     (
     W.cnd (decide (0 < z1.1)) (W.idx l (IntKind.i64.wrap (z1.1 - 1)) fun x6 => W.call (acct_Less x6.1 x3.1) fun v7 => (k5 ((!v7), ())))
      ((k5 (false, ())))))
   (some true))
  (0, ())
noncomputable def purse_Is (l : List AFlow') : Option Bool := purse_IsW stdW l
noncomputable def purse_Is_s : ES := ⟨(.pair (.slc tAFlow) .unit), (.v .bool), fun x => purse_Is x.1⟩
theorem purse_Is_ok : ECok Try.prog 16 (.es purse_Is_s)   := es_ok (A := (.pair (.slc tAFlow) .unit)) (Q := (.v .bool)) (fun W x => purse_IsW W x.1) [(56, .es acct_Less_s)] ⟨acct_Less_ok, trivial⟩ [(4, [], (ofL [(0, true), (1, true), (2, true), (3, true), (4, true), (5, true), (6, true), (7, true), (8, true), (9, true), (10, true), (11, true), (12, true), (13, true), (14, true), (15, false), (16, true), (17, true), (18, true)]))] [(500030, ⟨[(30, .t .bool)], [], []⟩)] [(2, ⟨[(7, .t (.int .i64))], [], []⟩)] Try.func16 rfl (by decide +kernel) rfl rfl (fun W x => by kernel_rfl)
noncomputable def purse_amountsW (W : Wd) (l : List AFlow') (u : AUnit') : Option (List Int) := 
 W.loop (fun (z1 : Int × List (Int) × Unit) again2 => 
  W.cnd (decide (z1.1 < (l.length : Int))) (
   W.join (fun (z3 : List (Int) × Unit) => (again2 ((IntKind.i64.wrap (z1.1 + 1)), (z3.1, ()))))
    fun k4 => W.idx l z1.1 fun x5 => 
    W.cnd (Go.Vc.notIf false ((x5.1.1 == u.1) && (x5.1.2.1 == u.2.1))) (W.room (z1.2.1.length + (x5.2.1 :: []).length) 8 ((k4 ((z1.2.1 ++ (x5.2.1 :: [])), ()))))
     ((k4 (z1.2.1, ()))))
   (some z1.2.1))
  (0, ([], ()))
noncomputable def purse_amounts (l : List AFlow') (u : AUnit') : Option (List Int) := purse_amountsW stdW l u
noncomputable def purse_amounts_s : ES := ⟨(.pair (.slc tAFlow) (.pair tAUnit .unit)), (.own 2 (.int .i64)), fun x => purse_amounts x.1 x.2.1⟩
theorem purse_amounts_ok : ECok Try.prog 53 (.es purse_amounts_s)   := es_ok (A := (.pair (.slc tAFlow) (.pair tAUnit .unit))) (Q := (.own 2 (.int .i64))) (fun W x => purse_amountsW W x.1 x.2.1) [] trivial [] [(7, ⟨[(5, .row 1)], [], [.dead, .own 2 (.int .i64)]⟩)] [(3, ⟨[(5, .row 1), (10, .t (.int .i64))], [], [.dead, .own 2 (.int .i64)]⟩)] Try.func53 rfl (by decide +kernel) rfl rfl (fun W x => by kernel_rfl)
noncomputable def wide_OfW (W : Wd) (n : Int) : Option WideWide' := W.nn 63 (some ((Int.fdiv n (2 ^ (Min.min (Int.toNat 63) (Go.IntKind.bits Go.IntKind.i64)))), ((IntKind.u64.wrap n), ())))
noncomputable def wide_Of (n : Int) : Option WideWide' := wide_OfW stdW n
noncomputable def wide_Of_s : ES := ⟨(.pair (.int .i64) .unit), (.v tWideWide), fun x => wide_Of x.1⟩
theorem wide_Of_ok : ECok Try.prog 54 (.es wide_Of_s)   := es_ok (A := (.pair (.int .i64) .unit)) (Q := (.v tWideWide)) (fun W x => wide_OfW W x.1) [] trivial [] [] [] Try.func54 rfl (by decide +kernel) rfl rfl (fun W x => by kernel_rfl)
noncomputable def wide_total_addW (W : Wd) (w : WideWide') (t0 : Int) (t1 : Int) (t2 : Int) : Option (Unit × (Int × Int × Int × Unit)) := W.call (add64 t2 w.2.1 0) fun v1 => W.call (add64 (IntKind.u64.wrap t1) (IntKind.u64.wrap w.1) v1.2.1) fun v2 => W.nn 63 (some ((), ((IntKind.i64.wrap (t0 + (IntKind.i64.wrap ((Int.fdiv w.1 (2 ^ (Min.min (Int.toNat 63) (Go.IntKind.bits Go.IntKind.i64)))) + (IntKind.i64.wrap v2.2.1))))), ((IntKind.i64.wrap v2.1), (v1.1, ())))))
noncomputable def wide_total_add (w : WideWide') (t0 : Int) (t1 : Int) (t2 : Int) : Option (Unit × (Int × Int × Int × Unit)) := wide_total_addW stdW w t0 t1 t2
noncomputable def wide_total_add_s : LS := ⟨[.ptr, .v tWideWide], [⟨127, [.v (.int .i64), .v (.int .i64), .v (.int .u64)]⟩], [⟨127, [.v (.int .i64), .v (.int .i64), .v (.int .u64)]⟩], (.q .unit), fun x => wide_total_add x.1 x.2.1 x.2.2.1 x.2.2.2.1⟩
theorem wide_total_add_ok : ECok Try.prog 84 (.ls wide_total_add_s)   := ls_ok (A := [.ptr, .v tWideWide]) (B := [⟨127, [.v (.int .i64), .v (.int .i64), .v (.int .u64)]⟩]) (E := [⟨127, [.v (.int .i64), .v (.int .i64), .v (.int .u64)]⟩]) (Q := (.q .unit)) (fun W x => wide_total_addW W x.1 x.2.1 x.2.2.1 x.2.2.2.1) [(104, .es add64_s)] ⟨add64_ok, trivial⟩ [(1, [], (ofL [(0, true), (1, true), (2, true), (3, true), (4, true), (5, true), (6, true), (7, false), (8, true), (9, true), (10, true), (11, true), (12, true)])), (2, [], (ofL [(0, true), (1, true), (2, true), (3, true), (4, true), (5, true), (6, true), (7, true), (8, true), (9, true), (10, false), (11, true), (12, true), (13, true), (14, true), (15, true)])), (3, [0], (ofL [(0, true), (1, true), (2, true), (4, true), (5, true), (6, true), (7, true), (8, true), (9, true), (3, false), (10, true), (11, true), (12, true), (13, false)]))] [] [] Try.func84 rfl (by decide +kernel) rfl rfl rfl rfl rfl (fun W x => by kernel_rfl)
noncomputable def wide_rangedW (W : Wd) (w : WideWide') (ok : Bool) : Option (WideWide' × Int × Unit) := 
 W.cnd (!ok) (some ((0, (0, ())), (7, ())))
  (some (w, (0, ())))
noncomputable def wide_ranged (w : WideWide') (ok : Bool) : Option (WideWide' × Int × Unit) := wide_rangedW stdW w ok
noncomputable def wide_ranged_s : ES := ⟨(.pair tWideWide (.pair .bool .unit)), (.pair (.v tWideWide) (.pair (.v (.int .i64)) .unit)), fun x => wide_ranged x.1 x.2.1⟩
theorem wide_ranged_ok : ECok Try.prog 105 (.es wide_ranged_s)   := es_ok (A := (.pair tWideWide (.pair .bool .unit))) (Q := (.pair (.v tWideWide) (.pair (.v (.int .i64)) .unit))) (fun W x => wide_rangedW W x.1 x.2.1) [] trivial [] [] [] Try.func105 rfl (by decide +kernel) rfl rfl (fun W x => by kernel_rfl)
noncomputable def wide_total_doneW (W : Wd) (t0 : Int) (t1 : Int) (t2 : Int) : Option ((WideWide' × Int × Unit) × (Int × Int × Int × Unit)) := W.nn 63 (W.call (wide_ranged (t1, (t2, ())) (t0 == (Int.fdiv t1 (2 ^ (Min.min (Int.toNat 63) (Go.IntKind.bits Go.IntKind.i64)))))) fun v1 => some (v1, (t0, (t1, (t2, ())))))
noncomputable def wide_total_done (t0 : Int) (t1 : Int) (t2 : Int) : Option ((WideWide' × Int × Unit) × (Int × Int × Int × Unit)) := wide_total_doneW stdW t0 t1 t2
noncomputable def wide_total_done_s : LS := ⟨[.ptr], [⟨127, [.v (.int .i64), .v (.int .i64), .v (.int .u64)]⟩], [⟨127, [.v (.int .i64), .v (.int .i64), .v (.int .u64)]⟩], (.q (.pair (.v tWideWide) (.pair (.v (.int .i64)) .unit))), fun x => wide_total_done x.1 x.2.1 x.2.2.1⟩
theorem wide_total_done_ok : ECok Try.prog 85 (.ls wide_total_done_s)   := ls_ok (A := [.ptr]) (B := [⟨127, [.v (.int .i64), .v (.int .i64), .v (.int .u64)]⟩]) (E := [⟨127, [.v (.int .i64), .v (.int .i64), .v (.int .u64)]⟩]) (Q := (.q (.pair (.v tWideWide) (.pair (.v (.int .i64)) .unit)))) (fun W x => wide_total_doneW W x.1 x.2.1 x.2.2.1) [(105, .es wide_ranged_s)] ⟨wide_ranged_ok, trivial⟩ [(1, [1], (ofL [(0, true), (1, true), (2, true), (3, true), (4, true), (5, true), (6, true), (7, true), (8, true), (9, true), (10, true), (11, true), (12, true), (13, true), (14, true), (15, false), (16, true), (17, true), (18, false), (19, true)]))] [] [] Try.func85 rfl (by decide +kernel) rfl rfl rfl rfl rfl (fun W x => by kernel_rfl)
noncomputable def wide_AddW (W : Wd) (l : List WideWide') : Option (WideWide' × Int × Unit) := 
 W.loop (fun (z1 : Int × Int × Int × Int × Unit) again2 => 
  W.cnd (decide (z1.1 < (l.length : Int))) (W.idx l z1.1 fun x3 => W.call (wide_total_add x3 z1.2.1 z1.2.2.1 z1.2.2.2.1) fun v4 => (again2 ((IntKind.i64.wrap (z1.1 + 1)), v4.2)))
   (W.call (wide_total_done z1.2.1 z1.2.2.1 z1.2.2.2.1) fun v5 => some v5.1))
  (0, (0, (0, (0, ()))))
noncomputable def wide_Add (l : List WideWide') : Option (WideWide' × Int × Unit) := wide_AddW stdW l
noncomputable def wide_Add_s : ES := ⟨(.pair (.slc tWideWide) .unit), (.pair (.v tWideWide) (.pair (.v (.int .i64)) .unit)), fun x => wide_Add x.1⟩
theorem wide_Add_ok : ECok Try.prog 55 (.es wide_Add_s)   := es_ok (A := (.pair (.slc tWideWide) .unit)) (Q := (.pair (.v tWideWide) (.pair (.v (.int .i64)) .unit))) (fun W x => wide_AddW W x.1) [(84, .ls wide_total_add_s), (85, .ls wide_total_done_s)] ⟨wide_total_add_ok, wide_total_done_ok, trivial⟩ [] [] [(3, ⟨[(9, .t (.int .i64))], [(1, [.t (.int .i64), .t (.int .i64), .t (.int .u64)])], []⟩)] Try.func55 rfl (by decide +kernel) rfl rfl (fun W x => by kernel_rfl)
noncomputable def wide_IntW (W : Wd) (w : WideWide') : Option (Int × Int × Unit) := W.call (wide_Of (IntKind.i64.wrap w.2.1)) fun v1 => 
 W.cnd (Go.Vc.notIf true ((v1.1 == w.1) && (v1.2.1 == w.2.1))) (some (0, (7, ())))
  (some ((IntKind.i64.wrap w.2.1), (0, ())))
noncomputable def wide_Int (w : WideWide') : Option (Int × Int × Unit) := wide_IntW stdW w
noncomputable def wide_Int_s : ES := ⟨(.pair tWideWide .unit), (.pair (.v (.int .i64)) (.pair (.v (.int .i64)) .unit)), fun x => wide_Int x.1⟩
theorem wide_Int_ok : ECok Try.prog 67 (.es wide_Int_s)   := es_ok (A := (.pair tWideWide .unit)) (Q := (.pair (.v (.int .i64)) (.pair (.v (.int .i64)) .unit))) (fun W x => wide_IntW W x.1) [(54, .es wide_Of_s)] ⟨wide_Of_ok, trivial⟩ [(2, [], (ofL [(0, true), (2, true), (1, false), (3, true)]))] [] [] Try.func67 rfl (by decide +kernel) rfl rfl (fun W x => by kernel_rfl)
noncomputable def fix_narrowW (W : Wd) (w : WideWide') (e : Int) : Option (Int × Int × Unit) := 
 W.cnd (e != 0) (some (0, (e, ())))
  (W.call (wide_Int w) fun v1 => some v1)
noncomputable def fix_narrow (w : WideWide') (e : Int) : Option (Int × Int × Unit) := fix_narrowW stdW w e
noncomputable def fix_narrow_s : ES := ⟨(.pair tWideWide (.pair (.int .i64) .unit)), (.pair (.v (.int .i64)) (.pair (.v (.int .i64)) .unit)), fun x => fix_narrow x.1 x.2.1⟩
theorem fix_narrow_ok : ECok Try.prog 83 (.es fix_narrow_s)   := es_ok (A := (.pair tWideWide (.pair (.int .i64) .unit))) (Q := (.pair (.v (.int .i64)) (.pair (.v (.int .i64)) .unit))) (fun W x => fix_narrowW W x.1 x.2.1) [(67, .es wide_Int_s)] ⟨wide_Int_ok, trivial⟩ [] [] [] Try.func83 rfl (by decide +kernel) rfl rfl (fun W x => by kernel_rfl)
noncomputable def fix_SumW (W : Wd) (l : List Int) : Option (Int × Int × Unit) := W.nn (l.length : Int) (W.room (Int.toNat (l.length : Int)) 16 (
 W.loop (fun (z1 : Int × List (Int × Int × Unit) × Unit) again2 => 
  W.cnd (decide (z1.1 < (l.length : Int))) (W.idx l z1.1 fun x3 => W.call (wide_Of x3) fun v4 => W.room (z1.2.1.length + (v4 :: []).length) 16 ((again2 ((IntKind.i64.wrap (z1.1 + 1)), ((z1.2.1 ++ (v4 :: [])), ())))))
   (W.call (wide_Add z1.2.1) fun v5 => W.call (fix_narrow v5.1 v5.2.1) fun v6 => some v6))
  (0, ([], ()))))
noncomputable def fix_Sum (l : List Int) : Option (Int × Int × Unit) := fix_SumW stdW l
noncomputable def fix_Sum_s : ES := ⟨(.pair (.slc (.int .i64)) .unit), (.pair (.v (.int .i64)) (.pair (.v (.int .i64)) .unit)), fun x => fix_Sum x.1⟩
theorem fix_Sum_ok : ECok Try.prog 52 (.es fix_Sum_s)   := es_ok (A := (.pair (.slc (.int .i64)) .unit)) (Q := (.pair (.v (.int .i64)) (.pair (.v (.int .i64)) .unit))) (fun W x => fix_SumW W x.1) [(54, .es wide_Of_s), (55, .es wide_Add_s), (83, .es fix_narrow_s)] ⟨wide_Of_ok, wide_Add_ok, fix_narrow_ok, trivial⟩ [] [] [(3, ⟨[(4, .row 0), (12, .t (.int .i64))], [], [.own 35 tWideWide]⟩)] Try.func52 rfl (by decide +kernel) rfl rfl (fun W x => by kernel_rfl)
noncomputable def purse_PayW (W : Wd) (l : List AFlow') (flows : List AFlow') : Option ((List AFlow') × Int × Unit) := W.call (purse_Is l) fun v1 => 
 W.cnd (!v1) (some ([], (3, ())))
  (W.call (concatO (l :: (flows :: []))) fun v2 => W.call (namedO v2) fun v3 => 
  W.loop (fun (z4 : Int × List (Int × Int × Unit) × List ((Int × Int × Unit) × Int × Unit) × Unit) again5 => 
   W.cnd (decide (z4.1 < (v3.length : Int))) (
    W.join (fun (z6 : List (Int × Int × Unit) × List ((Int × Int × Unit) × Int × Unit) × Unit) => (again5 ((IntKind.i64.wrap (z4.1 + 1)), (z6.1, (z6.2.1, ())))))
     fun k7 => W.idx z4.2.1 z4.1 fun x8 => W.nth z4.2.1 (Int.toNat z4.1) fun x9 => W.call (purse_amounts v2 x9) fun v10 => W.call (fix_Sum v10) fun v11 => 
     W.cnd (v11.2.1 != 0) (some ([], v11.2))
      (
      W.cnd (v11.1 != 0) (W.room (z4.2.2.1.length + ((x9, (v11.1, ())) :: []).length) 24 ((k7 (z4.2.1, ((z4.2.2.1 ++ ((x9, (v11.1, ())) :: [])), ())))))
       ((k7 (z4.2.1, (z4.2.2.1, ()))))))
    (some (z4.2.2.1, (0, ()))))
   (0, (v3, ([], ()))))
noncomputable def purse_Pay (l : List AFlow') (flows : List AFlow') : Option ((List AFlow') × Int × Unit) := purse_PayW stdW l flows
noncomputable def purse_Pay_s : ES := ⟨(.pair (.slc tAFlow) (.pair (.slc tAFlow) .unit)), (.pair (.own 27 tAFlow) (.pair (.v (.int .i64)) .unit)), fun x => purse_Pay x.1 x.2.1⟩
theorem purse_Pay_ok : ECok Try.prog 12 (.es purse_Pay_s)   := es_ok (A := (.pair (.slc tAFlow) (.pair (.slc tAFlow) .unit))) (Q := (.pair (.own 27 tAFlow) (.pair (.v (.int .i64)) .unit))) (fun W x => purse_PayW W x.1 x.2.1) [(16, .es purse_Is_s), (50, .es concat_s), (51, .es named_s), (53, .es purse_amounts_s), (52, .es fix_Sum_s)] ⟨purse_Is_ok, concat_ok, named_ok, purse_amounts_ok, fix_Sum_ok, trivial⟩ [] [(13, ⟨[(7, .row 5), (20, .row 2)], [], [.dead, .dead, .own 25 tAUnit, .dead, .dead, .own 27 tAFlow]⟩)] [(6, ⟨[(7, .row 5), (20, .row 2), (22, .t (.int .i64))], [], [.dead, .dead, .own 25 tAUnit, .dead, .dead, .own 27 tAFlow]⟩)] Try.func12 rfl (by decide +kernel) rfl rfl (fun W x => by kernel_rfl)
noncomputable def ref17_SameW (W : Wd) (a : List AFlow') (b : List AFlow') : Option Bool := 
 W.cnd ((a.length : Int) != (b.length : Int)) (some false)
  (
  W.loop (fun (z1 : Int × Unit) again2 => 
   W.cnd (decide (z1.1 < (a.length : Int))) (W.idx a z1.1 fun x3 => W.idx b z1.1 fun x4 => 
    W.cnd (Go.Vc.notIf true ((x3.1.1 == x4.1.1) && ((x3.1.2.1 == x4.1.2.1) && (x3.2.1 == x4.2.1)))) (some false)
     ((again2 ((IntKind.i64.wrap (z1.1 + 1)), ()))))
    (some true))
   (0, ()))
noncomputable def ref17_Same (a : List AFlow') (b : List AFlow') : Option Bool := ref17_SameW stdW a b
noncomputable def ref17_Same_s : ES := ⟨(.pair (.slc tAFlow) (.pair (.slc tAFlow) .unit)), (.v .bool), fun x => ref17_Same x.1 x.2.1⟩
theorem ref17_Same_ok : ECok Try.prog 13 (.es ref17_Same_s)   := es_ok (A := (.pair (.slc tAFlow) (.pair (.slc tAFlow) .unit))) (Q := (.v .bool)) (fun W x => ref17_SameW W x.1 x.2.1) [] trivial [(6, [], (ofL [(0, true), (1, true), (2, true), (3, true), (4, true), (5, true), (6, true), (7, true), (8, true)]))] [] [(4, ⟨[(5, .t (.int .i64))], [], []⟩)] Try.func13 rfl (by decide +kernel) rfl rfl (fun W x => by kernel_rfl)
noncomputable def wide_SubW (W : Wd) (a : WideWide') (b : WideWide') : Option (WideWide' × Int × Unit) := W.call (wide_total_add a 0 0 0) fun v1 => W.call (wide_total_add ((Go.bits Go.BinOp.xor Go.IntKind.i64 (if true = true then (-1) else (if true = true then ((2 ^ ((Go.IntKind.bits Go.IntKind.i64) - 1)) - 1) else ((2 ^ (Go.IntKind.bits Go.IntKind.i64)) - 1))) b.1), ((Go.bits Go.BinOp.xor Go.IntKind.u64 (if false = true then (-1) else (if false = true then ((2 ^ ((Go.IntKind.bits Go.IntKind.u64) - 1)) - 1) else ((2 ^ (Go.IntKind.bits Go.IntKind.u64)) - 1))) b.2.1), ())) v1.2.1 v1.2.2.1 v1.2.2.2.1) fun v2 => W.call (wide_Of 1) fun v3 => W.call (wide_total_add v3 v2.2.1 v2.2.2.1 v2.2.2.2.1) fun v4 => W.call (wide_total_done v4.2.1 v4.2.2.1 v4.2.2.2.1) fun v5 => some v5.1
noncomputable def wide_Sub (a : WideWide') (b : WideWide') : Option (WideWide' × Int × Unit) := wide_SubW stdW a b
noncomputable def wide_Sub_s : ES := ⟨(.pair tWideWide (.pair tWideWide .unit)), (.pair (.v tWideWide) (.pair (.v (.int .i64)) .unit)), fun x => wide_Sub x.1 x.2.1⟩
theorem wide_Sub_ok : ECok Try.prog 90 (.es wide_Sub_s)   := es_ok (A := (.pair tWideWide (.pair tWideWide .unit))) (Q := (.pair (.v tWideWide) (.pair (.v (.int .i64)) .unit))) (fun W x => wide_SubW W x.1 x.2.1) [(84, .ls wide_total_add_s), (54, .es wide_Of_s), (85, .ls wide_total_done_s)] ⟨wide_total_add_ok, wide_Of_ok, wide_total_done_ok, trivial⟩ [] [] [] Try.func90 rfl (by decide +kernel) rfl rfl (fun W x => by kernel_rfl)
noncomputable def fix_SubW (W : Wd) (a : Int) (b : Int) : Option (Int × Int × Unit) := W.call (wide_Of a) fun v1 => W.call (wide_Of b) fun v2 => W.call (wide_Sub v1 v2) fun v3 => W.call (fix_narrow v3.1 v3.2.1) fun v4 => some v4
noncomputable def fix_Sub (a : Int) (b : Int) : Option (Int × Int × Unit) := fix_SubW stdW a b
noncomputable def fix_Sub_s : ES := ⟨(.pair (.int .i64) (.pair (.int .i64) .unit)), (.pair (.v (.int .i64)) (.pair (.v (.int .i64)) .unit)), fun x => fix_Sub x.1 x.2.1⟩
theorem fix_Sub_ok : ECok Try.prog 63 (.es fix_Sub_s)   := es_ok (A := (.pair (.int .i64) (.pair (.int .i64) .unit))) (Q := (.pair (.v (.int .i64)) (.pair (.v (.int .i64)) .unit))) (fun W x => fix_SubW W x.1 x.2.1) [(54, .es wide_Of_s), (90, .es wide_Sub_s), (83, .es fix_narrow_s)] ⟨wide_Of_ok, wide_Sub_ok, fix_narrow_ok, trivial⟩ [] [] [] Try.func63 rfl (by decide +kernel) rfl rfl (fun W x => by kernel_rfl)
noncomputable def purse_MoveW (W : Wd) (l : List AFlow') (from_ : AUnit') (to_ : AUnit') (amount : Int) : Option ((List AFlow') × Int × Unit) := W.call (fix_Sub 0 amount) fun v1 => 
 W.join (fun (z2 : Bool × Unit) => 
  W.cnd z2.1 (some ([], v1.2))
   (W.call (purse_Pay l ((from_, (v1.1, ())) :: ((to_, (amount, ())) :: []))) fun v3 => some (v3.1, v3.2)))
  fun k4 => 
  W.cnd (v1.2.1 != 0) (W.call (purse_Is l) fun v5 => (k4 (v5, ())))
   ((k4 (false, ())))
noncomputable def purse_Move (l : List AFlow') (from_ : AUnit') (to_ : AUnit') (amount : Int) : Option ((List AFlow') × Int × Unit) := purse_MoveW stdW l from_ to_ amount
noncomputable def purse_Move_s : ES := ⟨(.pair (.slc tAFlow) (.pair tAUnit (.pair tAUnit (.pair (.int .i64) .unit)))), (.pair (.own 27 tAFlow) (.pair (.v (.int .i64)) .unit)), fun x => purse_Move x.1 x.2.1 x.2.2.1 x.2.2.2.1⟩
theorem purse_Move_ok : ECok Try.prog 24 (.es purse_Move_s)   := es_ok (A := (.pair (.slc tAFlow) (.pair tAUnit (.pair tAUnit (.pair (.int .i64) .unit))))) (Q := (.pair (.own 27 tAFlow) (.pair (.v (.int .i64)) .unit))) (fun W x => purse_MoveW W x.1 x.2.1 x.2.2.1 x.2.2.2.1) [(63, .es fix_Sub_s), (16, .es purse_Is_s), (12, .es purse_Pay_s)] ⟨fix_Sub_ok, purse_Is_ok, purse_Pay_ok, trivial⟩ [] [(500022, ⟨[(22, .t .bool)], [], []⟩)] [] Try.func24 rfl (by decide +kernel) rfl rfl (fun W x => by kernel_rfl)
noncomputable def purse_GetW (W : Wd) (l : List AFlow') (u : AUnit') : Option Int := 
 W.loop (fun (z1 : Int × Unit) again2 => 
  W.cnd (decide (z1.1 < (l.length : Int))) (W.idx l z1.1 fun x3 => 
   W.cnd (Go.Vc.notIf false ((x3.1.1 == u.1) && (x3.1.2.1 == u.2.1))) (some x3.2.1)
    ((again2 ((IntKind.i64.wrap (z1.1 + 1)), ()))))
   (some 0))
  (0, ())
noncomputable def purse_Get (l : List AFlow') (u : AUnit') : Option Int := purse_GetW stdW l u
noncomputable def purse_Get_s : ES := ⟨(.pair (.slc tAFlow) (.pair tAUnit .unit)), (.v (.int .i64)), fun x => purse_Get x.1 x.2.1⟩
theorem purse_Get_ok : ECok Try.prog 18 (.es purse_Get_s)   := es_ok (A := (.pair (.slc tAFlow) (.pair tAUnit .unit))) (Q := (.v (.int .i64))) (fun W x => purse_GetW W x.1 x.2.1) [] trivial [] [] [(2, ⟨[(9, .t (.int .i64))], [], []⟩)] Try.func18 rfl (by decide +kernel) rfl rfl (fun W x => by kernel_rfl)
noncomputable def purse_TotalW (W : Wd) (l : List AFlow') : Option WideWide' := 
 W.loop (fun (z1 : Int × List (Int × Int × Unit) × Unit) again2 => 
  W.cnd (decide (z1.1 < (l.length : Int))) (W.idx l z1.1 fun x3 => W.call (wide_Of x3.2.1) fun v4 => W.room (z1.2.1.length + (v4 :: []).length) 16 ((again2 ((IntKind.i64.wrap (z1.1 + 1)), ((z1.2.1 ++ (v4 :: [])), ())))))
   (W.call (wide_Add z1.2.1) fun v5 => some v5.1))
  (0, ([], ()))
noncomputable def purse_Total (l : List AFlow') : Option WideWide' := purse_TotalW stdW l
noncomputable def purse_Total_s : ES := ⟨(.pair (.slc tAFlow) .unit), (.v tWideWide), fun x => purse_Total x.1⟩
theorem purse_Total_ok : ECok Try.prog 15 (.es purse_Total_s)   := es_ok (A := (.pair (.slc tAFlow) .unit)) (Q := (.v tWideWide)) (fun W x => purse_TotalW W x.1) [(54, .es wide_Of_s), (55, .es wide_Add_s)] ⟨wide_Of_ok, wide_Add_ok, trivial⟩ [] [] [(3, ⟨[(3, .row 1), (10, .t (.int .i64))], [], [.dead, .own 35 tWideWide]⟩)] Try.func15 rfl (by decide +kernel) rfl rfl (fun W x => by kernel_rfl)
noncomputable def ref01_NatW (W : Wd) (u : Int) : Option Novationref01Big' := 
 W.loop (fun (z1 : Int × List (Int) × Unit) again2 => 
  W.cnd (decide (0 < z1.1)) (W.nz 2 (W.room (z1.2.1.length + ((IntKind.u8.wrap (Int.tmod z1.1 2)) :: []).length) 1 (W.nz 2 ((again2 ((IntKind.u64.wrap (Int.tdiv z1.1 2)), ((z1.2.1 ++ ((IntKind.u8.wrap (Int.tmod z1.1 2)) :: [])), ())))))))
   (some (false, (z1.2.1, ()))))
  (u, ([], ()))
noncomputable def ref01_Nat (u : Int) : Option Novationref01Big' := ref01_NatW stdW u
noncomputable def ref01_plusW (W : Wd) (a : List Int) (b : List Int) : Option (List Int) := 
 W.loop (fun (z1 : Int × Int × List (Int) × Unit) again2 => 
  W.join (fun (z3 : List (Int) × Unit) => 
   W.join (fun (z4 : Int × List (Int) × Unit) => 
    W.join (fun (z5 : Int × List (Int) × Unit) => W.nz 2 (W.room (z5.2.1.length + ((Int.tmod z5.1 2) :: []).length) 1 (W.nz 2 ((again2 ((IntKind.u8.wrap (Int.tdiv z5.1 2)), ((IntKind.i64.wrap (z1.2.1 + 1)), ((z5.2.1 ++ ((Int.tmod z5.1 2) :: [])), ()))))))))
     fun k6 => 
     W.cnd (decide (z1.2.1 < (b.length : Int))) (W.idx b z1.2.1 fun x7 => (k6 ((IntKind.u8.wrap (z4.1 + x7)), (z4.2.1, ()))))
      ((k6 (z4.1, (z4.2.1, ())))))
    fun k8 => 
    W.cnd (decide (z1.2.1 < (a.length : Int))) (W.idx a z1.2.1 fun x9 => (k8 ((IntKind.u8.wrap (z1.1 + x9)), (z3.1, ()))))
     ((k8 (z1.1, (z3.1, ())))))
   fun k10 => 
   W.cnd (decide (z1.2.1 < (a.length : Int))) ((k10 (z1.2.2.1, ())))
    (
    W.cnd (decide (z1.2.1 < (b.length : Int))) ((k10 (z1.2.2.1, ())))
     (
     W.join (fun (z11 : List (Int) × Unit) => some z11.1)
      fun k12 => 
      W.cnd (decide (0 < z1.1)) (W.room (z1.2.2.1.length + (z1.1 :: []).length) 1 ((k12 ((z1.2.2.1 ++ (z1.1 :: [])), ()))))
       ((k12 (z1.2.2.1, ()))))))
  (0, (0, ([], ())))
noncomputable def ref01_plus (a : List Int) (b : List Int) : Option (List Int) := ref01_plusW stdW a b
noncomputable def ref01_OfW (W : Wd) (n : Int) : Option Novationref01Big' := 
 W.cnd (decide (0 ≤ n)) (W.call (ref01_Nat (IntKind.u64.wrap n)) fun v1 => some (v1.1, (v1.2.1, ())))
  (W.call (ref01_Nat (IntKind.u64.wrap (IntKind.i64.wrap (0 - (IntKind.i64.wrap (n + 1)))))) fun v2 => W.call (ref01_plus v2.2.1 (1 :: [])) fun v3 => some (true, (v3, ())))
noncomputable def ref01_Of (n : Int) : Option Novationref01Big' := ref01_OfW stdW n
noncomputable def law11_FewW (W : Wd) (l : List AUnit') : Option (List AUnit') := 
 W.cnd (decide (12 < (l.length : Int))) (W.bnd 12 l.length fun h1 => some (l.take h1))
  (some l)
noncomputable def law11_Few (l : List AUnit') : Option (List AUnit') := law11_FewW stdW l
noncomputable def law11_Few_s : ES := ⟨(.pair (.slc tAUnit) .unit), (.v (.slc tAUnit)), fun x => law11_Few x.1⟩
theorem law11_Few_ok : ECok Try.prog 26 (.es law11_Few_s)   := es_ok (A := (.pair (.slc tAUnit) .unit)) (Q := (.v (.slc tAUnit))) (fun W x => law11_FewW W x.1) [] trivial [] [] [] Try.func26 rfl (by decide +kernel) rfl rfl (fun W x => by kernel_rfl)
noncomputable def law19_FewW (W : Wd) (l : List APos') : Option (List APos') := 
 W.join (fun (z1 : List ((Int × Int × Unit) × List (Int × Int × Unit) × Unit) × Unit) => some z1.1)
  fun k2 => 
  W.loop (fun (z3 : Int × List ((Int × Int × Unit) × List (Int × Int × Unit) × Unit) × Unit) again4 => 
   W.cnd (decide (z3.1 < (l.length : Int))) (
    W.cnd (decide (z3.1 < 12)) (W.idx l z3.1 fun x5 => W.idx l z3.1 fun x6 => W.call (law11_Few x6.2.1) fun v7 => W.room (z3.2.1.length + ((x5.1, (v7, ())) :: []).length) 40 ((again4 ((IntKind.i64.wrap (z3.1 + 1)), ((z3.2.1 ++ ((x5.1, (v7, ())) :: [])), ())))))
     ((k2 (z3.2.1, ()))))
    ((k2 (z3.2.1, ()))))
   (0, ([], ()))
noncomputable def law19_Few (l : List APos') : Option (List APos') := law19_FewW stdW l
noncomputable def law19_Few_s : ES := ⟨(.pair (.slc tAPos) .unit), (.own 103 tAPos), fun x => law19_Few x.1⟩
theorem law19_Few_ok : ECok Try.prog 27 (.es law19_Few_s)   := es_ok (A := (.pair (.slc tAPos) .unit)) (Q := (.own 103 tAPos)) (fun W x => law19_FewW W x.1) [(26, .es law11_Few_s)] ⟨law11_Few_ok, trivial⟩ [(5, [], (ofL [(0, true), (1, true), (2, true), (3, true), (4, true), (5, true), (6, true), (7, true), (8, true), (9, true), (10, true), (11, false), (12, true), (13, false), (14, false), (15, true)]))] [(6, ⟨[(3, .row 1)], [], [.dead, .own 103 tAPos]⟩)] [(3, ⟨[(3, .row 1), (4, .t (.int .i64))], [], [.dead, .own 103 tAPos]⟩)] Try.func27 rfl (by decide +kernel) rfl rfl (fun W x => by kernel_rfl)
noncomputable def vec_IsW (W : Wd) (l : List AUnit') : Option Bool := 
 W.loop (fun (z1 : Int × Int × Unit) again2 => 
  W.cnd (decide (z1.2.1 < (l.length : Int))) (W.idx l z1.2.1 fun x3 => 
   W.join (fun (z4 : Bool × Unit) => 
    W.cnd z4.1 (some false)
     ((again2 (x3.1, ((IntKind.i64.wrap (z1.2.1 + 1)), ())))))
    fun k5 => 
    W.cnd (decide (x3.1 ≤ z1.1)) ((k5 (true, ())))
     (
     W.cnd (decide (8 < x3.1)) ((k5 (true, ())))
      ((k5 ((x3.2.1 == 0), ())))))
   (some true))
  (0, (0, ()))
noncomputable def vec_Is (l : List AUnit') : Option Bool := vec_IsW stdW l
noncomputable def vec_Is_s : ES := ⟨(.pair (.slc tAUnit) .unit), (.v .bool), fun x => vec_Is x.1⟩
theorem vec_Is_ok : ECok Try.prog 65 (.es vec_Is_s)   := es_ok (A := (.pair (.slc tAUnit) .unit)) (Q := (.v .bool)) (fun W x => vec_IsW W x.1) [] trivial [] [(500025, ⟨[(25, .t .bool)], [], []⟩)] [(3, ⟨[(3, .t (.int .i64)), (8, .t (.int .i64))], [], []⟩)] Try.func65 rfl (by decide +kernel) rfl rfl (fun W x => by kernel_rfl)
noncomputable def wide_Wide_belowW (W : Wd) (w : WideWide') : Option Bool := some (decide (w.1 < 0))
noncomputable def wide_Wide_below (w : WideWide') : Option Bool := wide_Wide_belowW stdW w
noncomputable def wide_Wide_below_s : ES := ⟨(.pair tWideWide .unit), (.v .bool), fun x => wide_Wide_below x.1⟩
theorem wide_Wide_below_ok : ECok Try.prog 112 (.es wide_Wide_below_s)   := es_ok (A := (.pair tWideWide .unit)) (Q := (.v .bool)) (fun W x => wide_Wide_belowW W x.1) [] trivial [] [] [] Try.func112 rfl (by decide +kernel) rfl rfl (fun W x => by kernel_rfl)
noncomputable def wide_Wide_sizeW (W : Wd) (w : WideWide') : Option WideSize' := W.call (wide_Wide_below w) fun v1 => 
 W.cnd (!v1) (some ((IntKind.u64.wrap w.1), w.2))
  (W.call (sub64 0 w.2.1 0) fun v2 => W.call (sub64 0 (IntKind.u64.wrap w.1) v2.2.1) fun v3 => some (v3.1, (v2.1, ())))
noncomputable def wide_Wide_size (w : WideWide') : Option WideSize' := wide_Wide_sizeW stdW w
noncomputable def wide_Wide_size_s : ES := ⟨(.pair tWideWide .unit), (.v tWideSize), fun x => wide_Wide_size x.1⟩
theorem wide_Wide_size_ok : ECok Try.prog 109 (.es wide_Wide_size_s)   := es_ok (A := (.pair tWideWide .unit)) (Q := (.v tWideSize)) (fun W x => wide_Wide_sizeW W x.1) [(112, .es wide_Wide_below_s), (138, .es sub64_s)] ⟨wide_Wide_below_ok, sub64_ok, trivial⟩ [] [] [] Try.func109 rfl (by decide +kernel) rfl rfl (fun W x => by kernel_rfl)
noncomputable def math_bits_Mul64W (W : Wd) (x : Int) (y : Int) : Option (Int × Int × Unit) := W.nn 32 (W.nn 32 (W.nn 32 (W.nn 32 (W.nn 32 (some ((IntKind.u64.wrap ((IntKind.u64.wrap ((IntKind.u64.wrap ((Int.fdiv x (2 ^ (Min.min (Int.toNat 32) (Go.IntKind.bits Go.IntKind.u64)))) * (Int.fdiv y (2 ^ (Min.min (Int.toNat 32) (Go.IntKind.bits Go.IntKind.u64)))))) + (Int.fdiv (IntKind.u64.wrap ((IntKind.u64.wrap ((Int.fdiv x (2 ^ (Min.min (Int.toNat 32) (Go.IntKind.bits Go.IntKind.u64)))) * (Go.bits Go.BinOp.and Go.IntKind.u64 y 4294967295))) + (Int.fdiv (IntKind.u64.wrap ((Go.bits Go.BinOp.and Go.IntKind.u64 x 4294967295) * (Go.bits Go.BinOp.and Go.IntKind.u64 y 4294967295))) (2 ^ (Min.min (Int.toNat 32) (Go.IntKind.bits Go.IntKind.u64)))))) (2 ^ (Min.min (Int.toNat 32) (Go.IntKind.bits Go.IntKind.u64)))))) + (Int.fdiv (IntKind.u64.wrap ((Go.bits Go.BinOp.and Go.IntKind.u64 (IntKind.u64.wrap ((IntKind.u64.wrap ((Int.fdiv x (2 ^ (Min.min (Int.toNat 32) (Go.IntKind.bits Go.IntKind.u64)))) * (Go.bits Go.BinOp.and Go.IntKind.u64 y 4294967295))) + (Int.fdiv (IntKind.u64.wrap ((Go.bits Go.BinOp.and Go.IntKind.u64 x 4294967295) * (Go.bits Go.BinOp.and Go.IntKind.u64 y 4294967295))) (2 ^ (Min.min (Int.toNat 32) (Go.IntKind.bits Go.IntKind.u64)))))) 4294967295) + (IntKind.u64.wrap ((Go.bits Go.BinOp.and Go.IntKind.u64 x 4294967295) * (Int.fdiv y (2 ^ (Min.min (Int.toNat 32) (Go.IntKind.bits Go.IntKind.u64)))))))) (2 ^ (Min.min (Int.toNat 32) (Go.IntKind.bits Go.IntKind.u64)))))), ((IntKind.u64.wrap (x * y)), ())))))))
noncomputable def math_bits_Mul64 (x : Int) (y : Int) : Option (Int × Int × Unit) := math_bits_Mul64W stdW x y
noncomputable def math_bits_Mul64_s : ES := ⟨(.pair (.int .u64) (.pair (.int .u64) .unit)), (.pair (.v (.int .u64)) (.pair (.v (.int .u64)) .unit)), fun x => math_bits_Mul64 x.1 x.2.1⟩
theorem math_bits_Mul64_ok : ECok Try.prog 110 (.es math_bits_Mul64_s)   := es_ok (A := (.pair (.int .u64) (.pair (.int .u64) .unit))) (Q := (.pair (.v (.int .u64)) (.pair (.v (.int .u64)) .unit))) (fun W x => math_bits_Mul64W W x.1 x.2.1) [] trivial [] [] [] Try.func110 rfl (by decide +kernel) rfl rfl (fun W x => by kernel_rfl)
noncomputable def wide_size_signedW (W : Wd) (s : WideSize') (minus : Bool) : Option (WideWide' × Bool × Unit) := 
 W.cnd (!minus) (some (((IntKind.i64.wrap s.1), s.2), ((decide (s.1 < 9223372036854775808)), ())))
  (W.call (sub64 0 s.2.1 0) fun v1 => W.call (sub64 0 s.1 v1.2.1) fun v2 => 
  W.cnd (decide (s.1 < 9223372036854775808)) (some (((IntKind.i64.wrap v2.1), (v1.1, ())), (true, ())))
   (
   W.cnd (s.1 == 9223372036854775808) (some (((IntKind.i64.wrap v2.1), (v1.1, ())), ((s.2.1 == 0), ())))
    (some (((IntKind.i64.wrap v2.1), (v1.1, ())), (false, ())))))
noncomputable def wide_size_signed (s : WideSize') (minus : Bool) : Option (WideWide' × Bool × Unit) := wide_size_signedW stdW s minus
noncomputable def wide_size_signed_s : ES := ⟨(.pair tWideSize (.pair .bool .unit)), (.pair (.v tWideWide) (.pair (.v .bool) .unit)), fun x => wide_size_signed x.1 x.2.1⟩
theorem wide_size_signed_ok : ECok Try.prog 111 (.es wide_size_signed_s)   := es_ok (A := (.pair tWideSize (.pair .bool .unit))) (Q := (.pair (.v tWideWide) (.pair (.v .bool) .unit))) (fun W x => wide_size_signedW W x.1 x.2.1) [(138, .es sub64_s)] ⟨sub64_ok, trivial⟩ [(2, [1], (ofL [(0, true), (1, true), (2, true), (3, true), (4, true), (5, true), (6, true), (7, true), (8, true), (9, false), (10, true)])), (5, [1], (ofL [(0, true), (1, true), (2, true), (3, true), (4, true), (5, true), (6, true), (7, true), (8, true), (9, true), (10, true), (11, true), (12, true), (13, true), (14, true), (15, true), (16, true), (17, false), (18, true)]))] [] [] Try.func111 rfl (by decide +kernel) rfl rfl (fun W x => by kernel_rfl)
noncomputable def wide_MulW (W : Wd) (a : Int) (b : Int) : Option WideWide' := W.call (wide_Of a) fun v1 => W.call (wide_Of b) fun v2 => W.call (wide_Wide_size v1) fun v3 => W.call (wide_Wide_size v2) fun v4 => W.call (math_bits_Mul64 v3.2.1 v4.2.1) fun v5 => W.both (W.call (wide_Wide_below v1) fun v6 => W.both (W.call (wide_Wide_below v2) fun v7 => W.both (W.call (wide_size_signed v5 (Go.Vc.notIf true (v6 == v7))) fun v8 => some v8.1) (W.call (wide_size_signed v5 (Go.Vc.notIf true (v6 == v7))) fun v9 => some v9.1)) (W.call (wide_Wide_below v2) fun v10 => W.call (wide_size_signed v5 (Go.Vc.notIf true (v6 == v10))) fun v11 => some v11.1)) (W.call (wide_Wide_below v1) fun v12 => W.call (wide_Wide_below v2) fun v13 => W.call (wide_size_signed v5 (Go.Vc.notIf true (v12 == v13))) fun v14 => some v14.1)
noncomputable def wide_Mul (a : Int) (b : Int) : Option WideWide' := wide_MulW stdW a b
noncomputable def wide_Mul_s : ES := ⟨(.pair (.int .i64) (.pair (.int .i64) .unit)), (.v tWideWide), fun x => wide_Mul x.1 x.2.1⟩
theorem wide_Mul_ok : ECok Try.prog 94 (.es wide_Mul_s)   := es_ok (A := (.pair (.int .i64) (.pair (.int .i64) .unit))) (Q := (.v tWideWide)) (fun W x => wide_MulW W x.1 x.2.1) [(54, .es wide_Of_s), (109, .es wide_Wide_size_s), (110, .es math_bits_Mul64_s), (112, .es wide_Wide_below_s), (111, .es wide_size_signed_s)] ⟨wide_Of_ok, wide_Wide_size_ok, math_bits_Mul64_ok, wide_Wide_below_ok, wide_size_signed_ok, trivial⟩ [(2, [], (ofL [(0, true), (3, true), (1, false), (2, true), (4, false), (5, true), (6, false), (7, true), (8, true), (9, true), (10, true), (11, true)])), (3, [], (.rd 0 (.rd 1 (.rd 2 (.rd 3 (.rd 5 (.two 4 12 (.two 6 12 (.rd 7 (.two 8 12 (ofL [(9, true), (10, true), (11, true), (12, false), (13, false), (14, true)]) (ofL [(8, false), (9, true), (10, true), (11, true), (13, false), (14, true)]))) (ofL [(6, false), (7, true), (8, false), (9, true), (10, true), (11, true), (13, false), (14, true)])) (ofL [(4, false), (6, false), (7, true), (8, false), (9, true), (10, true), (11, true), (13, false), (14, true)]))))))))] [] [] Try.func94 rfl (by decide +kernel) rfl rfl (fun W x => by kernel_rfl)
noncomputable def wide_TimesW (W : Wd) (w : WideWide') (n : Int) : Option (WideWide' × Int × Unit) := W.call (wide_Wide_size w) fun v1 => W.call (wide_Of n) fun v2 => W.call (wide_Wide_size v2) fun v3 => W.call (math_bits_Mul64 v1.1 v3.2.1) fun v4 => W.call (math_bits_Mul64 v1.2.1 v3.2.1) fun v5 => W.call (add64 v4.2.1 v5.1 0) fun v6 => W.call (wide_Wide_below w) fun v7 => W.call (wide_size_signed (v6.1, v5.2) (Go.Vc.notIf true (v7 == (decide (n < 0))))) fun v8 => 
 W.cnd v8.2.1 (
  W.cnd (v4.1 == 0) (W.call (wide_ranged v8.1 (v6.2.1 == 0)) fun v9 => some v9)
   (W.call (wide_ranged v8.1 false) fun v10 => some v10))
  (W.call (wide_ranged v8.1 false) fun v11 => some v11)
noncomputable def wide_Times (w : WideWide') (n : Int) : Option (WideWide' × Int × Unit) := wide_TimesW stdW w n
noncomputable def wide_Times_s : ES := ⟨(.pair tWideWide (.pair (.int .i64) .unit)), (.pair (.v tWideWide) (.pair (.v (.int .i64)) .unit)), fun x => wide_Times x.1 x.2.1⟩
theorem wide_Times_ok : ECok Try.prog 93 (.es wide_Times_s)   := es_ok (A := (.pair tWideWide (.pair (.int .i64) .unit))) (Q := (.pair (.v tWideWide) (.pair (.v (.int .i64)) .unit))) (fun W x => wide_TimesW W x.1 x.2.1) [(109, .es wide_Wide_size_s), (54, .es wide_Of_s), (110, .es math_bits_Mul64_s), (104, .es add64_s), (112, .es wide_Wide_below_s), (111, .es wide_size_signed_s), (105, .es wide_ranged_s)] ⟨wide_Wide_size_ok, wide_Of_ok, math_bits_Mul64_ok, add64_ok, wide_Wide_below_ok, wide_size_signed_ok, wide_ranged_ok, trivial⟩ [] [] [] Try.func93 rfl (by decide +kernel) rfl rfl (fun W x => by kernel_rfl)
noncomputable def book_IsW (W : Wd) (l : List APos') : Option Bool := 
 W.loop (fun (z1 : Int × Unit) again2 => 
  W.cnd (decide (z1.1 < (l.length : Int))) (W.idx l z1.1 fun x3 => 
   W.join (fun (z4 : Bool × Unit) => 
    W.cnd z4.1 (some false)
     ((again2 ((IntKind.i64.wrap (z1.1 + 1)), ()))))
    fun k5 => 
    W.cnd ((x3.2.1.length : Int) == 0) (W.both ((k5 (true, ()))) ((k5 (true, ()))))
     (W.call (vec_Is x3.2.1) fun v6 => 
     W.cnd (!v6) (W.both ((k5 (true, ()))) ((k5 (true, ()))))
      (
      W.cnd (decide (0 < z1.1)) (W.idx l (IntKind.i64.wrap (z1.1 - 1)) fun x7 => W.both (W.call (acct_Less x7.1 x3.1) fun v8 => (k5 ((!v8), ()))) (W.call (acct_Less x7.1 x3.1) fun v9 => (k5 ((!v9), ()))))
       (W.both ((k5 (false, ()))) ((k5 (false, ())))))))
   (some true))
  (0, ())
noncomputable def book_Is (l : List APos') : Option Bool := book_IsW stdW l
noncomputable def book_Is_s : ES := ⟨(.pair (.slc tAPos) .unit), (.v .bool), fun x => book_Is x.1⟩
theorem book_Is_ok : ECok Try.prog 35 (.es book_Is_s)   := es_ok (A := (.pair (.slc tAPos) .unit)) (Q := (.v .bool)) (fun W x => book_IsW W x.1) [(65, .es vec_Is_s), (56, .es acct_Less_s)] ⟨vec_Is_ok, acct_Less_ok, trivial⟩ [(4, [], (.rd 0 (.rd 1 (.rd 2 (.rd 3 (.rd 4 (.rd 5 (.rd 6 (.op 7 (.rd 8 (.rd 9 (.rd 10 (.rd 11 (.rd 12 (.rd 13 (.rd 14 (.rd 15 (.rd 16 (.rd 17 (.rd 18 (.rd 20 (.two 19 21 (ofL [(21, false), (22, false), (23, true), (24, true), (25, true)]) (ofL [(19, false), (22, false), (23, true), (24, true), (25, true)])))))))))))))))))))))))] [(500037, ⟨[(37, .t .bool)], [], []⟩)] [(2, ⟨[(7, .t (.int .i64))], [], []⟩)] Try.func35 rfl (by decide +kernel) rfl rfl (fun W x => by kernel_rfl)
noncomputable def vec_GetW (W : Wd) (l : List AUnit') (inst : Int) : Option Int := 
 W.loop (fun (z1 : Int × Unit) again2 => 
  W.cnd (decide (z1.1 < (l.length : Int))) (W.idx l z1.1 fun x3 => 
   W.cnd (x3.1 == inst) (some x3.2.1)
    ((again2 ((IntKind.i64.wrap (z1.1 + 1)), ()))))
   (some 0))
  (0, ())
noncomputable def vec_Get (l : List AUnit') (inst : Int) : Option Int := vec_GetW stdW l inst
noncomputable def vec_Get_s : ES := ⟨(.pair (.slc tAUnit) (.pair (.int .i64) .unit)), (.v (.int .i64)), fun x => vec_Get x.1 x.2.1⟩
theorem vec_Get_ok : ECok Try.prog 97 (.es vec_Get_s)   := es_ok (A := (.pair (.slc tAUnit) (.pair (.int .i64) .unit))) (Q := (.v (.int .i64))) (fun W x => vec_GetW W x.1 x.2.1) [] trivial [] [] [(2, ⟨[(9, .t (.int .i64))], [], []⟩)] Try.func97 rfl (by decide +kernel) rfl rfl (fun W x => by kernel_rfl)
noncomputable def book_OpenW (W : Wd) (l : List APos') (inst : Int) : Option WideWide' := 
 W.loop (fun (z1 : Int × List (Int × Int × Unit) × Unit) again2 => 
  W.cnd (decide (z1.1 < (l.length : Int))) (W.idx l z1.1 fun x3 => W.call (vec_Get x3.2.1 inst) fun v4 => W.call (wide_Of v4) fun v5 => W.room (z1.2.1.length + (v5 :: []).length) 16 ((again2 ((IntKind.i64.wrap (z1.1 + 1)), ((z1.2.1 ++ (v5 :: [])), ())))))
   (W.call (wide_Add z1.2.1) fun v6 => some v6.1))
  (0, ([], ()))
noncomputable def book_Open (l : List APos') (inst : Int) : Option WideWide' := book_OpenW stdW l inst
noncomputable def book_Open_s : ES := ⟨(.pair (.slc tAPos) (.pair (.int .i64) .unit)), (.v tWideWide), fun x => book_Open x.1 x.2.1⟩
theorem book_Open_ok : ECok Try.prog 72 (.es book_Open_s)   := es_ok (A := (.pair (.slc tAPos) (.pair (.int .i64) .unit))) (Q := (.v tWideWide)) (fun W x => book_OpenW W x.1 x.2.1) [(97, .es vec_Get_s), (54, .es wide_Of_s), (55, .es wide_Add_s)] ⟨vec_Get_ok, wide_Of_ok, wide_Add_ok, trivial⟩ [] [] [(3, ⟨[(5, .row 1), (12, .t (.int .i64))], [], [.dead, .own 35 tWideWide]⟩)] Try.func72 rfl (by decide +kernel) rfl rfl (fun W x => by kernel_rfl)
noncomputable def cmp_isNaNW (W : Wd) (x : Int) : Option Bool := some (x != x)
noncomputable def cmp_isNaN (x : Int) : Option Bool := cmp_isNaNW stdW x
noncomputable def cmp_isNaN_s : ES := ⟨(.pair (.int .i64) .unit), (.v .bool), fun x => cmp_isNaN x.1⟩
theorem cmp_isNaN_ok : ECok Try.prog 139 (.es cmp_isNaN_s)   := es_ok (A := (.pair (.int .i64) .unit)) (Q := (.v .bool)) (fun W x => cmp_isNaNW W x.1) [] trivial [] [] [] Try.func139 rfl (by decide +kernel) rfl rfl (fun W x => by kernel_rfl)
noncomputable def cmp_CompareW (W : Wd) (x : Int) (y : Int) : Option Int := W.call (cmp_isNaN x) fun v1 => W.call (cmp_isNaN y) fun v2 => 
 W.cnd v1 (
  W.cnd v2 (some 0)
   (some (-1)))
  (
  W.cnd v2 (some 1)
   (
   W.cnd (decide (x < y)) (some (-1))
    (
    W.cnd (decide (y < x)) (some 1)
     (some 0))))
noncomputable def cmp_Compare (x : Int) (y : Int) : Option Int := cmp_CompareW stdW x y
noncomputable def cmp_Compare_s : ES := ⟨(.pair (.int .i64) (.pair (.int .i64) .unit)), (.v (.int .i64)), fun x => cmp_Compare x.1 x.2.1⟩
theorem cmp_Compare_ok : ECok Try.prog 114 (.es cmp_Compare_s)   := es_ok (A := (.pair (.int .i64) (.pair (.int .i64) .unit))) (Q := (.v (.int .i64))) (fun W x => cmp_CompareW W x.1 x.2.1) [(139, .es cmp_isNaN_s)] ⟨cmp_isNaN_ok, trivial⟩ [] [] [] Try.func114 rfl (by decide +kernel) rfl rfl (fun W x => by kernel_rfl)
noncomputable def cmp_isNaN2W (W : Wd) (x : Int) : Option Bool := some (x != x)
noncomputable def cmp_isNaN2 (x : Int) : Option Bool := cmp_isNaN2W stdW x
noncomputable def cmp_isNaN2_s : ES := ⟨(.pair (.int .u64) .unit), (.v .bool), fun x => cmp_isNaN2 x.1⟩
theorem cmp_isNaN2_ok : ECok Try.prog 140 (.es cmp_isNaN2_s)   := es_ok (A := (.pair (.int .u64) .unit)) (Q := (.v .bool)) (fun W x => cmp_isNaN2W W x.1) [] trivial [] [] [] Try.func140 rfl (by decide +kernel) rfl rfl (fun W x => by kernel_rfl)
noncomputable def cmp_Compare2W (W : Wd) (x : Int) (y : Int) : Option Int := W.call (cmp_isNaN2 x) fun v1 => W.call (cmp_isNaN2 y) fun v2 => 
 W.cnd v1 (
  W.cnd v2 (some 0)
   (some (-1)))
  (
  W.cnd v2 (some 1)
   (
   W.cnd (decide (x < y)) (some (-1))
    (
    W.cnd (decide (y < x)) (some 1)
     (some 0))))
noncomputable def cmp_Compare2 (x : Int) (y : Int) : Option Int := cmp_Compare2W stdW x y
noncomputable def cmp_Compare2_s : ES := ⟨(.pair (.int .u64) (.pair (.int .u64) .unit)), (.v (.int .i64)), fun x => cmp_Compare2 x.1 x.2.1⟩
theorem cmp_Compare2_ok : ECok Try.prog 115 (.es cmp_Compare2_s)   := es_ok (A := (.pair (.int .u64) (.pair (.int .u64) .unit))) (Q := (.v (.int .i64))) (fun W x => cmp_Compare2W W x.1 x.2.1) [(140, .es cmp_isNaN2_s)] ⟨cmp_isNaN2_ok, trivial⟩ [] [] [] Try.func115 rfl (by decide +kernel) rfl rfl (fun W x => by kernel_rfl)
noncomputable def cmp_OrW (W : Wd) (vals : List Int) : Option Int := 
 W.loop (fun (z1 : Int × Unit) again2 => 
  W.cnd (decide (z1.1 < (vals.length : Int))) (W.idx vals z1.1 fun x3 => 
   W.cnd (x3 != 0) (some x3)
    ((again2 ((IntKind.i64.wrap (z1.1 + 1)), ()))))
   (some 0))
  (0, ())
noncomputable def cmp_Or (vals : List Int) : Option Int := cmp_OrW stdW vals
noncomputable def cmp_Or_s : ES := ⟨(.pair (.slc (.int .i64)) .unit), (.v (.int .i64)), fun x => cmp_Or x.1⟩
theorem cmp_Or_ok : ECok Try.prog 113 (.es cmp_Or_s)   := es_ok (A := (.pair (.slc (.int .i64)) .unit)) (Q := (.v (.int .i64))) (fun W x => cmp_OrW W x.1) [] trivial [] [] [(3, ⟨[(8, .t (.int .i64))], [], []⟩)] Try.func113 rfl (by decide +kernel) rfl rfl (fun W x => by kernel_rfl)
noncomputable def wide_CmpW (W : Wd) (a : WideWide') (b : WideWide') : Option Int := W.call (cmp_Compare a.1 b.1) fun v1 => W.call (cmp_Compare2 a.2.1 b.2.1) fun v2 => W.call (cmp_Or (v1 :: (v2 :: []))) fun v3 => some v3
noncomputable def wide_Cmp (a : WideWide') (b : WideWide') : Option Int := wide_CmpW stdW a b
noncomputable def wide_Cmp_s : ES := ⟨(.pair tWideWide (.pair tWideWide .unit)), (.v (.int .i64)), fun x => wide_Cmp x.1 x.2.1⟩
theorem wide_Cmp_ok : ECok Try.prog 96 (.es wide_Cmp_s)   := es_ok (A := (.pair tWideWide (.pair tWideWide .unit))) (Q := (.v (.int .i64))) (fun W x => wide_CmpW W x.1 x.2.1) [(114, .es cmp_Compare_s), (115, .es cmp_Compare2_s), (113, .es cmp_Or_s)] ⟨cmp_Compare_ok, cmp_Compare2_ok, cmp_Or_ok, trivial⟩ [(1, [], (ofL [(0, true), (1, true), (2, true), (3, true), (5, true), (6, true), (7, true), (8, true), (4, false), (9, false), (10, false), (11, false), (12, true)]))] [] [] Try.func96 rfl (by decide +kernel) rfl rfl (fun W x => by kernel_rfl)
noncomputable def wide_SignW (W : Wd) (w : WideWide') : Option Int := W.call (wide_Cmp w (0, (0, ()))) fun v1 => some v1
noncomputable def wide_Sign (w : WideWide') : Option Int := wide_SignW stdW w
noncomputable def wide_Sign_s : ES := ⟨(.pair tWideWide .unit), (.v (.int .i64)), fun x => wide_Sign x.1⟩
theorem wide_Sign_ok : ECok Try.prog 71 (.es wide_Sign_s)   := es_ok (A := (.pair tWideWide .unit)) (Q := (.v (.int .i64))) (fun W x => wide_SignW W x.1) [(96, .es wide_Cmp_s)] ⟨wide_Cmp_ok, trivial⟩ [] [] [] Try.func71 rfl (by decide +kernel) rfl rfl (fun W x => by kernel_rfl)
noncomputable def book_BalancedW (W : Wd) (l : List APos') : Option Bool := 
 W.loop (fun (z1 : Int × Unit) again2 => 
  W.cnd (decide (z1.1 ≤ 8)) (W.call (book_Open l z1.1) fun v3 => W.call (wide_Sign v3) fun v4 => 
   W.cnd (v4 != 0) (some false)
    ((again2 ((IntKind.i64.wrap (z1.1 + 1)), ()))))
   (some true))
  (1, ())
noncomputable def book_Balanced (l : List APos') : Option Bool := book_BalancedW stdW l
noncomputable def book_Balanced_s : ES := ⟨(.pair (.slc tAPos) .unit), (.v .bool), fun x => book_Balanced x.1⟩
theorem book_Balanced_ok : ECok Try.prog 36 (.es book_Balanced_s)   := es_ok (A := (.pair (.slc tAPos) .unit)) (Q := (.v .bool)) (fun W x => book_BalancedW W x.1) [(72, .es book_Open_s), (71, .es wide_Sign_s)] ⟨book_Open_ok, wide_Sign_ok, trivial⟩ [] [] [(2, ⟨[(3, .t (.int .i64))], [], []⟩)] Try.func36 rfl (by decide +kernel) rfl rfl (fun W x => by kernel_rfl)
noncomputable def law21_FewW (W : Wd) (l : List APos') (p : List AFlow') : Option DealDesk' := W.call (law19_Few l) fun v1 => W.call (law17_Few p) fun v2 => some (v1, (v2, ()))
noncomputable def law21_Few (l : List APos') (p : List AFlow') : Option DealDesk' := law21_FewW stdW l p
noncomputable def law21_Few_s : ES := ⟨(.pair (.slc tAPos) (.pair (.slc tAFlow) .unit)), (.v tDealDesk), fun x => law21_Few x.1 x.2.1⟩
theorem law21_Few_ok : ECok Try.prog 37 (.es law21_Few_s)   := es_ok (A := (.pair (.slc tAPos) (.pair (.slc tAFlow) .unit))) (Q := (.v tDealDesk)) (fun W x => law21_FewW W x.1 x.2.1) [(27, .es law19_Few_s), (11, .es law17_Few_s)] ⟨law19_Few_ok, law17_Few_ok, trivial⟩ [] [] [] Try.func37 rfl (by decide +kernel) rfl rfl (fun W x => by kernel_rfl)
noncomputable def law21_oneW (W : Wd) (i : AInst') : Option AInst' := 
 W.join (fun (z1 : Int × Int × Int × Int × List (Int) × Unit) => some (z1.1, (z1.2.1, (z1.2.2.1, (z1.2.2.2.1, (z1.2.2.2.2.1, ()))))))
  fun k2 => 
  W.cnd (decide (9 < (i.2.2.2.2.1.length : Int))) (W.bnd 9 i.2.2.2.2.1.length fun h3 => (k2 (i.1, (i.2.1, (i.2.2.1, (i.2.2.2.1, ((i.2.2.2.2.1.take h3), ())))))))
   ((k2 (i.1, (i.2.1, (i.2.2.1, (i.2.2.2.1, (i.2.2.2.2.1, ())))))))
noncomputable def law21_one (i : AInst') : Option AInst' := law21_oneW stdW i
noncomputable def law21_one_s : ES := ⟨(.pair tAInst .unit), (.v tAInst), fun x => law21_one x.1⟩
theorem law21_one_ok : ECok Try.prog 38 (.es law21_one_s)   := es_ok (A := (.pair tAInst .unit)) (Q := (.v tAInst)) (fun W x => law21_oneW W x.1) [] trivial [] [(3, ⟨[], [(0, [.t (.int .i64), .t (.int .i64), .t (.int .i64), .t (.int .i64), .t (.slc (.int .i64))])], []⟩)] [] Try.func38 rfl (by decide +kernel) rfl rfl (fun W x => by kernel_rfl)
noncomputable def deal_IsW (W : Wd) (d : DealDesk') : Option Bool := W.call (book_Is d.1) fun v1 => 
 W.cnd v1 (W.call (purse_Is d.2.1) fun v2 => some v2)
  (some false)
noncomputable def deal_Is (d : DealDesk') : Option Bool := deal_IsW stdW d
noncomputable def deal_Is_s : ES := ⟨(.pair tDealDesk .unit), (.v .bool), fun x => deal_Is x.1⟩
theorem deal_Is_ok : ECok Try.prog 47 (.es deal_Is_s)   := es_ok (A := (.pair tDealDesk .unit)) (Q := (.v .bool)) (fun W x => deal_IsW W x.1) [(35, .es book_Is_s), (16, .es purse_Is_s)] ⟨book_Is_ok, purse_Is_ok, trivial⟩ [] [] [] Try.func47 rfl (by decide +kernel) rfl rfl (fun W x => by kernel_rfl)
noncomputable def inst_pricedW (W : Wd) (p : Int) : Option Bool := 
 W.cnd (decide (0 ≤ p)) (some (decide (p ≤ 2147483647)))
  (some false)
noncomputable def inst_priced (p : Int) : Option Bool := inst_pricedW stdW p
noncomputable def inst_priced_s : ES := ⟨(.pair (.int .i64) .unit), (.v .bool), fun x => inst_priced x.1⟩
theorem inst_priced_ok : ECok Try.prog 99 (.es inst_priced_s)   := es_ok (A := (.pair (.int .i64) .unit)) (Q := (.v .bool)) (fun W x => inst_pricedW W x.1) [] trivial [] [] [] Try.func99 rfl (by decide +kernel) rfl rfl (fun W x => by kernel_rfl)
noncomputable def inst_farW (W : Wd) (m : Int) : Option Bool := 
 W.cnd (decide (m < (-2147483647))) (some true)
  (some (decide (2147483647 < m)))
noncomputable def inst_far (m : Int) : Option Bool := inst_farW stdW m
noncomputable def inst_far_s : ES := ⟨(.pair (.int .i64) .unit), (.v .bool), fun x => inst_far x.1⟩
theorem inst_far_ok : ECok Try.prog 117 (.es inst_far_s)   := es_ok (A := (.pair (.int .i64) .unit)) (Q := (.v .bool)) (fun W x => inst_farW W x.1) [] trivial [] [] [] Try.func117 rfl (by decide +kernel) rfl rfl (fun W x => by kernel_rfl)
noncomputable def slices_IndexFuncint64_int64_inst_farW (W : Wd) (s : List Int) : Option (Int × (Unit)) := 
 W.loop (fun (z1 : Int × Unit) again2 => 
  W.cnd (decide (z1.1 < (s.length : Int))) (W.idx s z1.1 fun x3 => W.call (inst_far x3) fun v4 => 
   W.cnd v4 (some z1)
    ((again2 ((IntKind.i64.wrap (z1.1 + 1)), ()))))
   (some ((-1), ())))
  (0, ())
noncomputable def slices_IndexFuncint64_int64_inst_far (s : List Int) : Option (Int × (Unit)) := slices_IndexFuncint64_int64_inst_farW stdW s
noncomputable def slices_IndexFuncint64_int64_inst_far_s : LS := ⟨[.v (.slc (.int .i64)), .fn 117 0], [], [], (.q (.v (.int .i64))), fun x => slices_IndexFuncint64_int64_inst_far x.1⟩
theorem slices_IndexFuncint64_int64_inst_far_ok : ECok Try.prog 141 (.ls slices_IndexFuncint64_int64_inst_far_s)   := ls_ok (A := [.v (.slc (.int .i64)), .fn 117 0]) (B := []) (E := []) (Q := (.q (.v (.int .i64)))) (fun W x => slices_IndexFuncint64_int64_inst_farW W x.1) [(117, .es inst_far_s)] ⟨inst_far_ok, trivial⟩ [] [] [(2, ⟨[(8, .t (.int .i64))], [], []⟩)] Try.func141 rfl (by decide +kernel) rfl rfl rfl rfl rfl (fun W x => by kernel_rfl)
noncomputable def slices_ContainsFuncint64_int64_inst_farW (W : Wd) (s : List Int) : Option (Bool × (Unit)) := W.call (slices_IndexFuncint64_int64_inst_far s) fun v1 => some ((decide (0 ≤ v1.1)), ())
noncomputable def slices_ContainsFuncint64_int64_inst_far (s : List Int) : Option (Bool × (Unit)) := slices_ContainsFuncint64_int64_inst_farW stdW s
noncomputable def slices_ContainsFuncint64_int64_inst_far_s : LS := ⟨[.v (.slc (.int .i64)), .fn 117 0], [], [], (.q (.v .bool)), fun x => slices_ContainsFuncint64_int64_inst_far x.1⟩
theorem slices_ContainsFuncint64_int64_inst_far_ok : ECok Try.prog 116 (.ls slices_ContainsFuncint64_int64_inst_far_s)   := ls_ok (A := [.v (.slc (.int .i64)), .fn 117 0]) (B := []) (E := []) (Q := (.q (.v .bool))) (fun W x => slices_ContainsFuncint64_int64_inst_farW W x.1) [(141, .ls slices_IndexFuncint64_int64_inst_far_s)] ⟨slices_IndexFuncint64_int64_inst_far_ok, trivial⟩ [] [] [] Try.func116 rfl (by decide +kernel) rfl rfl rfl rfl rfl (fun W x => by kernel_rfl)
noncomputable def inst_CheckW (W : Wd) (i : AInst') : Option Int := 
 W.join (fun (z1 : Bool × Unit) => 
  W.join (fun (z2 : Bool × Unit) => 
   W.cnd z2.1 (some 2)
    (some 0))
   fun k3 => 
   W.cnd (!z1.1) ((k3 (true, ())))
    (W.call (inst_priced i.2.2.1) fun v4 => 
    W.cnd (!v4) ((k3 (true, ())))
     (W.call (inst_priced i.2.2.2.1) fun v5 => 
     W.cnd (!v5) ((k3 (true, ())))
      (
      W.cnd (decide (8 < (i.2.2.2.2.1.length : Int))) ((k3 (true, ())))
       (W.call (slices_ContainsFuncint64_int64_inst_far i.2.2.2.2.1) fun v6 => (k3 v6))))))
  fun k7 => 
  W.cnd (decide (1 ≤ i.1)) (
   W.cnd (decide (i.1 ≤ 8)) (
    W.cnd (decide (1 ≤ i.2.1)) ((k7 ((decide (i.2.1 ≤ 65536)), ())))
     ((k7 (false, ()))))
    ((k7 (false, ()))))
   ((k7 (false, ())))
noncomputable def inst_Check (i : AInst') : Option Int := inst_CheckW stdW i
noncomputable def inst_Check_s : ES := ⟨(.pair tAInst .unit), (.v (.int .i64)), fun x => inst_Check x.1⟩
theorem inst_Check_ok : ECok Try.prog 98 (.es inst_Check_s)   := es_ok (A := (.pair tAInst .unit)) (Q := (.v (.int .i64))) (fun W x => inst_CheckW W x.1) [(99, .es inst_priced_s), (116, .ls slices_ContainsFuncint64_int64_inst_far_s)] ⟨inst_priced_ok, slices_ContainsFuncint64_int64_inst_far_ok, trivial⟩ [] [(2, ⟨[(3, .t .bool)], [], []⟩), (500046, ⟨[(46, .t .bool)], [], []⟩)] [] Try.func98 rfl (by decide +kernel) rfl rfl (fun W x => by kernel_rfl)
noncomputable def deal_rightW (W : Wd) (i : AInst') (qty : Int) (price : Int) : Option Bool := W.call (inst_Check (i.1, (i.2.1, (i.2.2.1, (i.2.2.2.1, (i.2.2.2.2.1, ())))))) fun v1 => 
 W.cnd (v1 == 0) (
  W.cnd (decide (0 ≤ price)) (
   W.cnd (decide (price ≤ 2147483647)) (
    W.cnd (qty != 0) (
     W.cnd (decide ((-1099511627776) ≤ qty)) (some (decide (qty ≤ 1099511627776)))
      (some false))
     (some false))
    (some false))
   (some false))
  (some false)
noncomputable def deal_right (i : AInst') (qty : Int) (price : Int) : Option Bool := deal_rightW stdW i qty price
noncomputable def deal_right_s : ES := ⟨(.pair tAInst (.pair (.int .i64) (.pair (.int .i64) .unit))), (.v .bool), fun x => deal_right x.1 x.2.1 x.2.2.1⟩
theorem deal_right_ok : ECok Try.prog 73 (.es deal_right_s)   := es_ok (A := (.pair tAInst (.pair (.int .i64) (.pair (.int .i64) .unit)))) (Q := (.v .bool)) (fun W x => deal_rightW W x.1 x.2.1 x.2.2.1) [(98, .es inst_Check_s)] ⟨inst_Check_ok, trivial⟩ [] [] [] Try.func73 rfl (by decide +kernel) rfl rfl (fun W x => by kernel_rfl)
noncomputable def inst_GainW (W : Wd) (i : AInst') (qty : Int) (from_ : Int) (to_ : Int) : Option (Int × Int × Unit) := 
 W.join (fun (z1 : Bool × Unit) => 
  W.cnd z1.1 (some (0, (2, ())))
   (W.call (wide_Mul (IntKind.i64.wrap (to_ - from_)) i.2.1) fun v2 => W.call (wide_Times v2 qty) fun v3 => 
   W.cnd (v3.2.1 != 0) (some (0, v3.2))
    (W.call (wide_Int v3.1) fun v4 => some v4)))
  fun k5 => W.call (inst_Check (i.1, (i.2.1, (i.2.2.1, (i.2.2.2.1, (i.2.2.2.2.1, ())))))) fun v6 => 
  W.cnd (v6 != 0) ((k5 (true, ())))
   (W.call (inst_priced from_) fun v7 => 
   W.cnd (!v7) ((k5 (true, ())))
    (W.call (inst_priced to_) fun v8 => (k5 ((!v8), ()))))
noncomputable def inst_Gain (i : AInst') (qty : Int) (from_ : Int) (to_ : Int) : Option (Int × Int × Unit) := inst_GainW stdW i qty from_ to_
noncomputable def inst_Gain_s : ES := ⟨(.pair tAInst (.pair (.int .i64) (.pair (.int .i64) (.pair (.int .i64) .unit)))), (.pair (.v (.int .i64)) (.pair (.v (.int .i64)) .unit)), fun x => inst_Gain x.1 x.2.1 x.2.2.1 x.2.2.2.1⟩
theorem inst_Gain_ok : ECok Try.prog 74 (.es inst_Gain_s)   := es_ok (A := (.pair tAInst (.pair (.int .i64) (.pair (.int .i64) (.pair (.int .i64) .unit))))) (Q := (.pair (.v (.int .i64)) (.pair (.v (.int .i64)) .unit))) (fun W x => inst_GainW W x.1 x.2.1 x.2.2.1 x.2.2.2.1) [(98, .es inst_Check_s), (99, .es inst_priced_s), (94, .es wide_Mul_s), (93, .es wide_Times_s), (67, .es wide_Int_s)] ⟨inst_Check_ok, inst_priced_ok, wide_Mul_ok, wide_Times_ok, wide_Int_ok, trivial⟩ [] [(500024, ⟨[(24, .t .bool)], [], []⟩)] [] Try.func74 rfl (by decide +kernel) rfl rfl (fun W x => by kernel_rfl)
noncomputable def vec_noneW (W : Wd) (l : List AUnit') : Option Bool := W.call (vec_Is l) fun v1 => some (!v1)
noncomputable def vec_none (l : List AUnit') : Option Bool := vec_noneW stdW l
noncomputable def vec_none_s : ES := ⟨(.pair (.slc tAUnit) .unit), (.v .bool), fun x => vec_none x.1⟩
theorem vec_none_ok : ECok Try.prog 118 (.es vec_none_s)   := es_ok (A := (.pair (.slc tAUnit) .unit)) (Q := (.v .bool)) (fun W x => vec_noneW W x.1) [(65, .es vec_Is_s)] ⟨vec_Is_ok, trivial⟩ [] [] [] Try.func118 rfl (by decide +kernel) rfl rfl (fun W x => by kernel_rfl)
noncomputable def vec_NegW (W : Wd) (l : List AUnit') : Option ((List AUnit') × Int × Unit) := W.call (vec_none l) fun v1 => 
 W.cnd v1 (some ([], (3, ())))
  (
  W.loop (fun (z2 : Int × List (Int × Int × Unit) × Unit) again3 => 
   W.cnd (decide (z2.1 < (l.length : Int))) (W.idx l z2.1 fun x4 => W.call (fix_Sub 0 x4.2.1) fun v5 => 
    W.cnd (v5.2.1 != 0) (some ([], v5.2))
     (W.room (z2.2.1.length + ((x4.1, (v5.1, ())) :: []).length) 16 ((again3 ((IntKind.i64.wrap (z2.1 + 1)), ((z2.2.1 ++ ((x4.1, (v5.1, ())) :: [])), ()))))))
    (some (z2.2.1, (0, ()))))
   (0, ([], ())))
noncomputable def vec_Neg (l : List AUnit') : Option ((List AUnit') × Int × Unit) := vec_NegW stdW l
noncomputable def vec_Neg_s : ES := ⟨(.pair (.slc tAUnit) .unit), (.pair (.own 106 tAUnit) (.pair (.v (.int .i64)) .unit)), fun x => vec_Neg x.1⟩
theorem vec_Neg_ok : ECok Try.prog 100 (.es vec_Neg_s)   := es_ok (A := (.pair (.slc tAUnit) .unit)) (Q := (.pair (.own 106 tAUnit) (.pair (.v (.int .i64)) .unit))) (fun W x => vec_NegW W x.1) [(118, .es vec_none_s), (63, .es fix_Sub_s)] ⟨vec_none_ok, fix_Sub_ok, trivial⟩ [] [] [(5, ⟨[(4, .row 1), (13, .t (.int .i64))], [], [.dead, .own 106 tAUnit]⟩)] Try.func100 rfl (by decide +kernel) rfl rfl (fun W x => by kernel_rfl)
noncomputable def slices_Cloneapi_Leg_api_LegW (W : Wd) (s : List AUnit') : Option (List AUnit') := W.nilq (List.isEmpty s) fun g1 => 
 W.cnd (Go.Vc.notIf false g1) (some [])
  (W.room ((0 : Nat) + s.length) 16 (some ([] ++ s)))
noncomputable def slices_Cloneapi_Leg_api_Leg (s : List AUnit') : Option (List AUnit') := slices_Cloneapi_Leg_api_LegW stdW s
noncomputable def slices_Cloneapi_Leg_api_Leg_s : ES := ⟨(.pair (.slc tAUnit) .unit), (.own 106 tAUnit), fun x => slices_Cloneapi_Leg_api_Leg x.1⟩
theorem slices_Cloneapi_Leg_api_Leg_ok : ECok Try.prog 79 (.es slices_Cloneapi_Leg_api_Leg_s)   := es_ok (A := (.pair (.slc tAUnit) .unit)) (Q := (.own 106 tAUnit)) (fun W x => slices_Cloneapi_Leg_api_LegW W x.1) [] trivial [] [] [] Try.func79 rfl (by decide +kernel) rfl rfl (fun W x => by kernel_rfl)
noncomputable def book_OfW (W : Wd) (l : List APos') (u : AUnit') : Option (List AUnit') := 
 W.loop (fun (z1 : Int × Unit) again2 => 
  W.cnd (decide (z1.1 < (l.length : Int))) (W.idx l z1.1 fun x3 => 
   W.cnd (Go.Vc.notIf false ((x3.1.1 == u.1) && (x3.1.2.1 == u.2.1))) (W.call (slices_Cloneapi_Leg_api_Leg x3.2.1) fun v4 => some v4)
    ((again2 ((IntKind.i64.wrap (z1.1 + 1)), ()))))
   (some []))
  (0, ())
noncomputable def book_Of (l : List APos') (u : AUnit') : Option (List AUnit') := book_OfW stdW l u
noncomputable def book_Of_s : ES := ⟨(.pair (.slc tAPos) (.pair tAUnit .unit)), (.own 106 tAUnit), fun x => book_Of x.1 x.2.1⟩
theorem book_Of_ok : ECok Try.prog 49 (.es book_Of_s)   := es_ok (A := (.pair (.slc tAPos) (.pair tAUnit .unit))) (Q := (.own 106 tAUnit)) (fun W x => book_OfW W x.1 x.2.1) [(79, .es slices_Cloneapi_Leg_api_Leg_s)] ⟨slices_Cloneapi_Leg_api_Leg_ok, trivial⟩ [] [] [(2, ⟨[(9, .t (.int .i64))], [], []⟩)] Try.func49 rfl (by decide +kernel) rfl rfl (fun W x => by kernel_rfl)
noncomputable def slices_IndexFuncapi_Leg_api_Leg_vec_noneW (W : Wd) (s : List (List AUnit')) : Option (Int × (Unit)) := 
 W.loop (fun (z1 : Int × Unit) again2 => 
  W.cnd (decide (z1.1 < (s.length : Int))) (W.idx s z1.1 fun x3 => W.call (vec_none x3) fun v4 => 
   W.cnd v4 (some z1)
    ((again2 ((IntKind.i64.wrap (z1.1 + 1)), ()))))
   (some ((-1), ())))
  (0, ())
noncomputable def slices_IndexFuncapi_Leg_api_Leg_vec_none (s : List (List AUnit')) : Option (Int × (Unit)) := slices_IndexFuncapi_Leg_api_Leg_vec_noneW stdW s
noncomputable def slices_IndexFuncapi_Leg_api_Leg_vec_none_s : LS := ⟨[.v (.slc (.slc tAUnit)), .fn 118 0], [], [], (.q (.v (.int .i64))), fun x => slices_IndexFuncapi_Leg_api_Leg_vec_none x.1⟩
theorem slices_IndexFuncapi_Leg_api_Leg_vec_none_ok : ECok Try.prog 150 (.ls slices_IndexFuncapi_Leg_api_Leg_vec_none_s)   := ls_ok (A := [.v (.slc (.slc tAUnit)), .fn 118 0]) (B := []) (E := []) (Q := (.q (.v (.int .i64)))) (fun W x => slices_IndexFuncapi_Leg_api_Leg_vec_noneW W x.1) [(118, .es vec_none_s)] ⟨vec_none_ok, trivial⟩ [] [] [(2, ⟨[(8, .t (.int .i64))], [], []⟩)] Try.func150 rfl (by decide +kernel) rfl rfl rfl rfl rfl (fun W x => by kernel_rfl)
noncomputable def slices_ContainsFuncapi_Leg_api_Leg_vec_noneW (W : Wd) (s : List (List AUnit')) : Option (Bool × (Unit)) := W.call (slices_IndexFuncapi_Leg_api_Leg_vec_none s) fun v1 => some ((decide (0 ≤ v1.1)), ())
noncomputable def slices_ContainsFuncapi_Leg_api_Leg_vec_none (s : List (List AUnit')) : Option (Bool × (Unit)) := slices_ContainsFuncapi_Leg_api_Leg_vec_noneW stdW s
noncomputable def slices_ContainsFuncapi_Leg_api_Leg_vec_none_s : LS := ⟨[.v (.slc (.slc tAUnit)), .fn 118 0], [], [], (.q (.v .bool)), fun x => slices_ContainsFuncapi_Leg_api_Leg_vec_none x.1⟩
theorem slices_ContainsFuncapi_Leg_api_Leg_vec_none_ok : ECok Try.prog 142 (.ls slices_ContainsFuncapi_Leg_api_Leg_vec_none_s)   := ls_ok (A := [.v (.slc (.slc tAUnit)), .fn 118 0]) (B := []) (E := []) (Q := (.q (.v .bool))) (fun W x => slices_ContainsFuncapi_Leg_api_Leg_vec_noneW W x.1) [(150, .ls slices_IndexFuncapi_Leg_api_Leg_vec_none_s)] ⟨slices_IndexFuncapi_Leg_api_Leg_vec_none_ok, trivial⟩ [] [] [] Try.func142 rfl (by decide +kernel) rfl rfl rfl rfl rfl (fun W x => by kernel_rfl)
noncomputable def vec_AddW (W : Wd) (l : List (List AUnit')) : Option ((List AUnit') × Int × Unit) := W.call (slices_ContainsFuncapi_Leg_api_Leg_vec_none l) fun v1 => 
 W.cnd v1.1 (some ([], (3, ())))
  (
  W.loop (fun (z2 : Int × List (Int × Int × Unit) × Unit) again3 => 
   W.cnd (decide (z2.1 ≤ 8)) (
    W.join (fun (z4 : List (Int × Int × Unit) × Unit) => (again3 ((IntKind.i64.wrap (z2.1 + 1)), (z4.1, ()))))
     fun k5 => 
     W.loop (fun (z6 : Int × List (Int × Int × Unit) × List (Int) × Unit) again7 => 
      W.cnd (decide (z6.1 < (l.length : Int))) (W.idx l z6.1 fun x8 => W.call (vec_Get x8 z2.1) fun v9 => W.room (z6.2.2.1.length + (v9 :: []).length) 8 ((again7 ((IntKind.i64.wrap (z6.1 + 1)), (z6.2.1, ((z6.2.2.1 ++ (v9 :: [])), ()))))))
       (W.call (fix_Sum z6.2.2.1) fun v10 => 
       W.cnd (v10.2.1 != 0) (some ([], v10.2))
        (
        W.cnd (v10.1 != 0) (W.room (z6.2.1.length + ((z2.1, (v10.1, ())) :: []).length) 16 ((k5 ((z6.2.1 ++ ((z2.1, (v10.1, ())) :: [])), ()))))
         ((k5 (z6.2.1, ()))))))
      (0, (z2.2.1, ([], ()))))
    (some (z2.2.1, (0, ()))))
   (1, ([], ())))
noncomputable def vec_Add (l : List (List AUnit')) : Option ((List AUnit') × Int × Unit) := vec_AddW stdW l
noncomputable def vec_Add_s : ES := ⟨(.pair (.slc (.slc tAUnit)) .unit), (.pair (.own 106 tAUnit) (.pair (.v (.int .i64)) .unit)), fun x => vec_Add x.1⟩
theorem vec_Add_ok : ECok Try.prog 119 (.es vec_Add_s)   := es_ok (A := (.pair (.slc (.slc tAUnit)) .unit)) (Q := (.pair (.own 106 tAUnit) (.pair (.v (.int .i64)) .unit))) (fun W x => vec_AddW W x.1) [(142, .ls slices_ContainsFuncapi_Leg_api_Leg_vec_none_s), (97, .es vec_Get_s), (52, .es fix_Sum_s)] ⟨slices_ContainsFuncapi_Leg_api_Leg_vec_none_ok, vec_Get_ok, fix_Sum_ok, trivial⟩ [] [(6, ⟨[(4, .row 3)], [], [.dead, .dead, .dead, .own 106 tAUnit]⟩)] [(5, ⟨[(4, .row 3), (5, .t (.int .i64))], [], [.dead, .dead, .dead, .own 106 tAUnit]⟩), (9, ⟨[(4, .row 3), (6, .row 5), (19, .t (.int .i64))], [], [.dead, .dead, .dead, .own 106 tAUnit, .dead, .own 2 (.int .i64)]⟩)] Try.func119 rfl (by decide +kernel) rfl rfl (fun W x => by kernel_rfl)
noncomputable def book_placeW (W : Wd) (l : List APos') (u : AUnit') : Option (Int × Bool × Unit) := 
 W.loop (fun (z1 : Int × Unit) again2 => 
  W.cnd (decide (z1.1 < (l.length : Int))) (W.idx l z1.1 fun x3 => W.call (acct_Less x3.1 u) fun v4 => 
   W.cnd (!v4) (some (z1.1, ((Go.Vc.notIf false ((x3.1.1 == u.1) && (x3.1.2.1 == u.2.1))), ())))
    ((again2 ((IntKind.i64.wrap (z1.1 + 1)), ()))))
   (some ((l.length : Int), (false, ()))))
  (0, ())
noncomputable def book_place (l : List APos') (u : AUnit') : Option (Int × Bool × Unit) := book_placeW stdW l u
noncomputable def book_place_s : ES := ⟨(.pair (.slc tAPos) (.pair tAUnit .unit)), (.pair (.v (.int .i64)) (.pair (.v .bool) .unit)), fun x => book_place x.1 x.2.1⟩
theorem book_place_ok : ECok Try.prog 120 (.es book_place_s)   := es_ok (A := (.pair (.slc tAPos) (.pair tAUnit .unit))) (Q := (.pair (.v (.int .i64)) (.pair (.v .bool) .unit))) (fun W x => book_placeW W x.1 x.2.1) [(56, .es acct_Less_s)] ⟨acct_Less_ok, trivial⟩ [(5, [], (ofL [(0, true), (1, true), (2, true), (3, true), (4, true), (5, true), (6, true)]))] [] [(2, ⟨[(10, .t (.int .i64))], [], []⟩)] Try.func120 rfl (by decide +kernel) rfl rfl (fun W x => by kernel_rfl)
noncomputable def book_copiedW (W : Wd) (l : List APos') : Option (List APos') := 
 W.loop (fun (z1 : Int × List ((Int × Int × Unit) × List (Int × Int × Unit) × Unit) × Unit) again2 => 
  W.cnd (decide (z1.1 < (l.length : Int))) (W.idx l z1.1 fun x3 => W.call (slices_Cloneapi_Leg_api_Leg x3.2.1) fun v4 => W.room (z1.2.1.length + ((x3.1, (v4, ())) :: []).length) 40 ((again2 ((IntKind.i64.wrap (z1.1 + 1)), ((z1.2.1 ++ ((x3.1, (v4, ())) :: [])), ())))))
   (some z1.2.1))
  (0, ([], ()))
noncomputable def book_copied (l : List APos') : Option (List APos') := book_copiedW stdW l
noncomputable def book_copied_s : ES := ⟨(.pair (.slc tAPos) .unit), (.own 103 tAPos), fun x => book_copied x.1⟩
theorem book_copied_ok : ECok Try.prog 121 (.es book_copied_s)   := es_ok (A := (.pair (.slc tAPos) .unit)) (Q := (.own 103 tAPos)) (fun W x => book_copiedW W x.1) [(79, .es slices_Cloneapi_Leg_api_Leg_s)] ⟨slices_Cloneapi_Leg_api_Leg_ok, trivial⟩ [(5, [], (ofL [(0, true), (1, true), (2, true), (3, true), (4, true), (5, false), (6, true), (7, false), (8, false), (9, true)]))] [] [(3, ⟨[(3, .row 2), (8, .t (.int .i64))], [], [.dead, .dead, .own 103 tAPos]⟩)] Try.func121 rfl (by decide +kernel) rfl rfl (fun W x => by kernel_rfl)
noncomputable def book_ShiftW (W : Wd) (l : List APos') (u : AUnit') (legs : List AUnit') : Option ((List APos') × Int × Unit) := W.call (book_Is l) fun v1 => 
 W.cnd (!v1) (some ([], (3, ())))
  (W.call (book_Of l u) fun v2 => W.call (vec_Add (v2 :: (legs :: []))) fun v3 => 
  W.cnd (v3.2.1 != 0) (some ([], v3.2))
   (W.call (book_place l u) fun v4 => W.call (book_copied l) fun v5 => 
   W.join (fun (z6 : List (Int × Int × Unit) × List ((Int × Int × Unit) × List (Int × Int × Unit) × Unit) × Unit) => 
    W.join (fun (z7 : List ((Int × Int × Unit) × List (Int × Int × Unit) × Unit) × Unit) => some (z7.1, (0, ())))
     fun k8 => 
     W.cnd (decide (0 < (z6.1.length : Int))) (W.call (insO z6.2.1 v4.1 ((u, (z6.1, ())) :: [])) fun v9 => (k8 (v9.1, ())))
      ((k8 (z6.2.1, ()))))
    fun k10 => 
    W.cnd v4.2.1 (W.call (delO v5 v4.1 (IntKind.i64.wrap (v4.1 + 1))) fun v11 => (k10 (v3.1, (v11.1, ()))))
     ((k10 (v3.1, (v5, ()))))))
noncomputable def book_Shift (l : List APos') (u : AUnit') (legs : List AUnit') : Option ((List APos') × Int × Unit) := book_ShiftW stdW l u legs
noncomputable def book_Shift_s : ES := ⟨(.pair (.slc tAPos) (.pair tAUnit (.pair (.slc tAUnit) .unit))), (.pair (.own 103 tAPos) (.pair (.v (.int .i64)) .unit)), fun x => book_Shift x.1 x.2.1 x.2.2.1⟩
theorem book_Shift_ok : ECok Try.prog 101 (.es book_Shift_s)   := es_ok (A := (.pair (.slc tAPos) (.pair tAUnit (.pair (.slc tAUnit) .unit)))) (Q := (.pair (.own 103 tAPos) (.pair (.v (.int .i64)) .unit))) (fun W x => book_ShiftW W x.1 x.2.1 x.2.2.1) [(35, .es book_Is_s), (49, .es book_Of_s), (119, .es vec_Add_s), (120, .es book_place_s), (121, .es book_copied_s), (122, .ls delete_s), (123, .ls insert_s)] ⟨book_Is_ok, book_Of_ok, vec_Add_ok, book_place_ok, book_copied_ok, delete_ok, insert_ok, trivial⟩ [] [(10, ⟨[(8, .row 2), (12, .row 3)], [], [.dead, .dead, .own 106 tAUnit, .own 103 tAPos]⟩), (12, ⟨[(12, .row 3)], [], [.dead, .dead, .dead, .own 103 tAPos]⟩)] [] Try.func101 rfl (by decide +kernel) rfl rfl (fun W x => by kernel_rfl)
noncomputable def book_MoveW (W : Wd) (l : List APos') (from_ : AUnit') (to_ : AUnit') (legs : List AUnit') : Option ((List APos') × Int × Unit) := W.call (book_Is l) fun v1 => 
 W.cnd (!v1) (some ([], (3, ())))
  (W.call (vec_Neg legs) fun v2 => 
  W.cnd (v2.2.1 != 0) (some ([], v2.2))
   (W.call (book_Shift l from_ v2.1) fun v3 => 
   W.cnd (v3.2.1 != 0) (some ([], v3.2))
    (W.call (book_Shift v3.1 to_ legs) fun v4 => some (v4.1, v4.2))))
noncomputable def book_Move (l : List APos') (from_ : AUnit') (to_ : AUnit') (legs : List AUnit') : Option ((List APos') × Int × Unit) := book_MoveW stdW l from_ to_ legs
noncomputable def book_Move_s : ES := ⟨(.pair (.slc tAPos) (.pair tAUnit (.pair tAUnit (.pair (.slc tAUnit) .unit)))), (.pair (.own 103 tAPos) (.pair (.v (.int .i64)) .unit)), fun x => book_Move x.1 x.2.1 x.2.2.1 x.2.2.2.1⟩
theorem book_Move_ok : ECok Try.prog 75 (.es book_Move_s)   := es_ok (A := (.pair (.slc tAPos) (.pair tAUnit (.pair tAUnit (.pair (.slc tAUnit) .unit))))) (Q := (.pair (.own 103 tAPos) (.pair (.v (.int .i64)) .unit))) (fun W x => book_MoveW W x.1 x.2.1 x.2.2.1 x.2.2.2.1) [(35, .es book_Is_s), (100, .es vec_Neg_s), (101, .es book_Shift_s)] ⟨book_Is_ok, vec_Neg_ok, book_Shift_ok, trivial⟩ [] [] [] Try.func75 rfl (by decide +kernel) rfl rfl (fun W x => by kernel_rfl)
noncomputable def deal_AtW (W : Wd) (d : DealDesk') (i : AInst') (from_ : AUnit') (to_ : AUnit') (qty : Int) (price : Int) : Option (DealDesk' × Int × Unit) := W.call (deal_Is (d.1, (d.2.1, ()))) fun v1 => 
 W.cnd (!v1) (some (([], ([], ())), (3, ())))
  (W.call (deal_right (i.1, (i.2.1, (i.2.2.1, (i.2.2.2.1, (i.2.2.2.2.1, ()))))) qty price) fun v2 => 
  W.cnd (!v2) (some (([], ([], ())), (2, ())))
   (
   W.cnd (Go.Vc.notIf false ((from_.1 == to_.1) && (from_.2.1 == to_.2.1))) (some (([], ([], ())), (24, ())))
    (W.call (inst_Gain (i.1, (i.2.1, (i.2.2.1, (i.2.2.2.1, (i.2.2.2.2.1, ()))))) qty price i.2.2.1) fun v3 => 
    W.cnd (v3.2.1 != 0) (some (([], ([], ())), v3.2))
     (W.call (book_Move d.1 from_ to_ ((i.1, (qty, ())) :: [])) fun v4 => 
     W.cnd (v4.2.1 != 0) (some (([], ([], ())), v4.2))
      (W.call (purse_Move d.2.1 from_ to_ v3.1) fun v5 => 
      W.cnd (v5.2.1 != 0) (some (([], ([], ())), v5.2))
       (some ((v4.1, (v5.1, ())), (0, ()))))))))
noncomputable def deal_At (d : DealDesk') (i : AInst') (from_ : AUnit') (to_ : AUnit') (qty : Int) (price : Int) : Option (DealDesk' × Int × Unit) := deal_AtW stdW d i from_ to_ qty price
noncomputable def deal_At_s : ES := ⟨(.pair tDealDesk (.pair tAInst (.pair tAUnit (.pair tAUnit (.pair (.int .i64) (.pair (.int .i64) .unit)))))), (.pair (.v tDealDesk) (.pair (.v (.int .i64)) .unit)), fun x => deal_At x.1 x.2.1 x.2.2.1 x.2.2.2.1 x.2.2.2.2.1 x.2.2.2.2.2.1⟩
theorem deal_At_ok : ECok Try.prog 39 (.es deal_At_s)   := es_ok (A := (.pair tDealDesk (.pair tAInst (.pair tAUnit (.pair tAUnit (.pair (.int .i64) (.pair (.int .i64) .unit))))))) (Q := (.pair (.v tDealDesk) (.pair (.v (.int .i64)) .unit))) (fun W x => deal_AtW W x.1 x.2.1 x.2.2.1 x.2.2.2.1 x.2.2.2.2.1 x.2.2.2.2.2.1) [(47, .es deal_Is_s), (73, .es deal_right_s), (74, .es inst_Gain_s), (75, .es book_Move_s), (24, .es purse_Move_s)] ⟨deal_Is_ok, deal_right_ok, inst_Gain_ok, book_Move_ok, purse_Move_ok, trivial⟩ [] [] [] Try.func39 rfl (by decide +kernel) rfl rfl (fun W x => by kernel_rfl)
noncomputable def ref11_SameW (W : Wd) (a : List AUnit') (b : List AUnit') : Option Bool := 
 W.cnd ((a.length : Int) != (b.length : Int)) (some false)
  (
  W.loop (fun (z1 : Int × Unit) again2 => 
   W.cnd (decide (z1.1 < (a.length : Int))) (W.idx a z1.1 fun x3 => W.idx b z1.1 fun x4 => 
    W.cnd (Go.Vc.notIf true ((x3.1 == x4.1) && (x3.2.1 == x4.2.1))) (some false)
     ((again2 ((IntKind.i64.wrap (z1.1 + 1)), ()))))
    (some true))
   (0, ()))
noncomputable def ref11_Same (a : List AUnit') (b : List AUnit') : Option Bool := ref11_SameW stdW a b
noncomputable def ref11_Same_s : ES := ⟨(.pair (.slc tAUnit) (.pair (.slc tAUnit) .unit)), (.v .bool), fun x => ref11_Same x.1 x.2.1⟩
theorem ref11_Same_ok : ECok Try.prog 48 (.es ref11_Same_s)   := es_ok (A := (.pair (.slc tAUnit) (.pair (.slc tAUnit) .unit))) (Q := (.v .bool)) (fun W x => ref11_SameW W x.1 x.2.1) [] trivial [(6, [], (ofL [(0, true), (1, true), (2, true), (3, true), (4, true), (5, true), (6, true), (7, true), (8, true)]))] [] [(4, ⟨[(5, .t (.int .i64))], [], []⟩)] Try.func48 rfl (by decide +kernel) rfl rfl (fun W x => by kernel_rfl)
noncomputable def law21_livesW (W : Wd) : Option Bool := W.call (deal_At ([], ([], ())) (1, (10, (7, (0, ([], ()))))) (1, (0, ())) (2, (0, ())) 3 5) fun v1 => 
 W.cnd (v1.2.1 == 0) (W.call (purse_Get v1.1.2.1 (2, (0, ()))) fun v2 => 
  W.cnd (v2 == 60) (W.call (purse_Get v1.1.2.1 (1, (0, ()))) fun v3 => 
   W.cnd (v3 == (-60)) (W.call (book_Of v1.1.1 (2, (0, ()))) fun v4 => W.call (ref11_Same v4 ((1, (3, ())) :: [])) fun v5 => some v5)
    (some false))
   (some false))
  (some false)
noncomputable def law21_lives : Option Bool := law21_livesW stdW
noncomputable def law21_lives_s : ES := ⟨.unit, (.v .bool), fun x => law21_lives ⟩
theorem law21_lives_ok : ECok Try.prog 40 (.es law21_lives_s)   := es_ok (A := .unit) (Q := (.v .bool)) (fun W x => law21_livesW W ) [(39, .es deal_At_s), (18, .es purse_Get_s), (49, .es book_Of_s), (48, .es ref11_Same_s)] ⟨deal_At_ok, purse_Get_ok, book_Of_ok, ref11_Same_ok, trivial⟩ [] [] [] Try.func40 rfl (by decide +kernel) rfl rfl (fun W x => by kernel_rfl)
noncomputable def ref19_SameW (W : Wd) (a : List APos') (b : List APos') : Option Bool := 
 W.cnd ((a.length : Int) != (b.length : Int)) (some false)
  (
  W.loop (fun (z1 : Int × Unit) again2 => 
   W.cnd (decide (z1.1 < (a.length : Int))) (
    W.join (fun (z3 : Bool × Unit) => 
     W.cnd z3.1 (some false)
      ((again2 ((IntKind.i64.wrap (z1.1 + 1)), ()))))
     fun k4 => W.idx a z1.1 fun x5 => W.idx b z1.1 fun x6 => 
     W.cnd (Go.Vc.notIf true ((x5.1.1 == x6.1.1) && (x5.1.2.1 == x6.1.2.1))) ((k4 (true, ())))
      (W.idx a z1.1 fun x7 => W.idx b z1.1 fun x8 => W.call (ref11_Same x7.2.1 x8.2.1) fun v9 => (k4 ((!v9), ()))))
    (some true))
   (0, ()))
noncomputable def ref19_Same (a : List APos') (b : List APos') : Option Bool := ref19_SameW stdW a b
noncomputable def ref19_Same_s : ES := ⟨(.pair (.slc tAPos) (.pair (.slc tAPos) .unit)), (.v .bool), fun x => ref19_Same x.1 x.2.1⟩
theorem ref19_Same_ok : ECok Try.prog 41 (.es ref19_Same_s)   := es_ok (A := (.pair (.slc tAPos) (.pair (.slc tAPos) .unit))) (Q := (.v .bool)) (fun W x => ref19_SameW W x.1 x.2.1) [(48, .es ref11_Same_s)] ⟨ref11_Same_ok, trivial⟩ [(6, [], (ofL [(0, true), (1, true), (2, true), (3, true), (4, true), (5, true), (6, true), (7, true), (8, true), (9, true), (10, true), (11, true), (12, true), (13, true), (14, true), (15, true), (16, true), (17, true), (18, true), (19, true), (20, true), (21, true), (22, false), (23, true), (24, true)]))] [(500041, ⟨[(41, .t .bool)], [], []⟩)] [(4, ⟨[(5, .t (.int .i64))], [], []⟩)] Try.func41 rfl (by decide +kernel) rfl rfl (fun W x => by kernel_rfl)
noncomputable def law21_plainW (W : Wd) (d : DealDesk') : Option DealDesk' := some (d.1, (d.2.1, ()))
noncomputable def law21_plain (d : DealDesk') : Option DealDesk' := law21_plainW stdW d
noncomputable def law21_plain_s : ES := ⟨(.pair tDealDesk .unit), (.v tDealDesk), fun x => law21_plain x.1⟩
theorem law21_plain_ok : ECok Try.prog 46 (.es law21_plain_s)   := es_ok (A := (.pair tDealDesk .unit)) (Q := (.v tDealDesk)) (fun W x => law21_plainW W x.1) [] trivial [] [] [] Try.func46 rfl (by decide +kernel) rfl rfl (fun W x => by kernel_rfl)
noncomputable def ref21_SameW (W : Wd) (a : DealDesk') (b : DealDesk') : Option Bool := W.call (ref19_Same a.1 b.1) fun v1 => 
 W.cnd v1 (W.call (ref17_Same a.2.1 b.2.1) fun v2 => some v2)
  (some false)
noncomputable def ref21_Same (a : DealDesk') (b : DealDesk') : Option Bool := ref21_SameW stdW a b
noncomputable def ref21_Same_s : ES := ⟨(.pair tDealDesk (.pair tDealDesk .unit)), (.v .bool), fun x => ref21_Same x.1 x.2.1⟩
theorem ref21_Same_ok : ECok Try.prog 45 (.es ref21_Same_s)   := es_ok (A := (.pair tDealDesk (.pair tDealDesk .unit))) (Q := (.v .bool)) (fun W x => ref21_SameW W x.1 x.2.1) [(41, .es ref19_Same_s), (13, .es ref17_Same_s)] ⟨ref19_Same_ok, ref17_Same_ok, trivial⟩ [] [] [] Try.func45 rfl (by decide +kernel) rfl rfl (fun W x => by kernel_rfl)
noncomputable def law21_DealKeepsW (W : Wd) (l : List APos') (p : List AFlow') (i : AInst') (from_ : AUnit') (to_ : AUnit') (other : AUnit') (qty : Int) (price : Int) : Option Bool := W.both (W.call (law21_Few l p) fun v1 => W.both (W.both (W.call (law21_one (i.1, (i.2.1, (i.2.2.1, (i.2.2.2.1, (i.2.2.2.2.1, ())))))) fun v2 => W.call (deal_At (v1.1, (v1.2.1, ())) (v2.1, (v2.2.1, (v2.2.2.1, (v2.2.2.2.1, (v2.2.2.2.2.1, ()))))) from_ to_ qty price) fun v3 => 
    W.cnd (v3.2.1 != 0) (W.call (law21_plain (v3.1.1, (v3.1.2.1, ()))) fun v4 => W.call (ref21_Same (v4.1, (v4.2.1, ())) ([], ([], ()))) fun v5 => 
     W.cnd v5 (W.call (law21_lives) fun v6 => some v6)
      (some false))
     (
     W.join (fun (z7 : Bool × Unit) => 
      W.cnd z7.1 (some false)
       (
       W.join (fun (z8 : Bool × Unit) => 
        W.cnd z8.1 (some false)
         (W.call (deal_At (v3.1.1, (v3.1.2.1, ())) (v2.1, (v2.2.1, (v2.2.2.1, (v2.2.2.2.1, (v2.2.2.2.2.1, ()))))) to_ from_ qty price) fun v9 => 
         W.join (fun (z10 : Bool × Unit) => 
          W.cnd z10.1 (some false)
           (W.call (deal_At (v1.1, (v1.2.1, ())) (v2.1, (v2.2.1, (v2.2.2.1, (v2.2.2.2.1, (v2.2.2.2.2.1, ()))))) from_ to_ qty v2.2.2.1) fun v11 => 
           W.cnd (v11.2.1 != 0) (W.call (law21_lives) fun v12 => some v12)
            (W.call (purse_Get v11.1.2.1 from_) fun v13 => W.call (purse_Get v1.2.1 from_) fun v14 => 
            W.cnd (v13 == v14) (W.call (law21_lives) fun v15 => some v15)
             (some false))))
          fun k16 => 
          W.cnd (v9.2.1 == 0) (W.call (law21_plain (v9.1.1, (v9.1.2.1, ()))) fun v17 => W.call (law21_plain (v1.1, (v1.2.1, ()))) fun v18 => W.call (ref21_Same (v17.1, (v17.2.1, ())) (v18.1, (v18.2.1, ()))) fun v19 => (k16 ((!v19), ())))
           ((k16 (false, ())))))
        fun k20 => 
        W.cnd (Go.Vc.notIf true ((other.1 == from_.1) && (other.2.1 == from_.2.1))) (
         W.cnd (Go.Vc.notIf true ((other.1 == to_.1) && (other.2.1 == to_.2.1))) (W.call (book_Of v3.1.1 other) fun v21 => W.call (book_Of v1.1 other) fun v22 => W.call (ref11_Same v21 v22) fun v23 => 
          W.cnd (!v23) ((k20 (true, ())))
           (W.call (purse_Get v3.1.2.1 other) fun v24 => W.call (purse_Get v1.2.1 other) fun v25 => (k20 ((v24 != v25), ()))))
          ((k20 (false, ()))))
         ((k20 (false, ())))))
      fun k26 => W.call (book_Balanced v3.1.1) fun v27 => W.call (book_Balanced v1.1) fun v28 => 
      W.cnd (Go.Vc.notIf true (v27 == v28)) (W.both (W.both ((k26 (true, ()))) ((k26 (true, ())))) ((k26 (true, ()))))
       (W.both (W.both (W.call (purse_Total v3.1.2.1) fun v29 => W.call (purse_Total v1.2.1) fun v30 => 
         W.cnd (Go.Vc.notIf true ((v29.1 == v30.1) && (v29.2.1 == v30.2.1))) ((k26 (true, ())))
          (W.call (deal_Is (v3.1.1, (v3.1.2.1, ()))) fun v31 => (k26 ((!v31), ())))) (W.call (purse_Total v3.1.2.1) fun v32 => W.call (purse_Total v1.2.1) fun v33 => 
         W.cnd (Go.Vc.notIf true ((v32.1 == v33.1) && (v32.2.1 == v33.2.1))) ((k26 (true, ())))
          (W.call (deal_Is (v3.1.1, (v3.1.2.1, ()))) fun v34 => (k26 ((!v34), ()))))) (W.call (purse_Total v3.1.2.1) fun v35 => W.call (purse_Total v1.2.1) fun v36 => 
        W.cnd (Go.Vc.notIf true ((v35.1 == v36.1) && (v35.2.1 == v36.2.1))) ((k26 (true, ())))
         (W.call (deal_Is (v3.1.1, (v3.1.2.1, ()))) fun v37 => (k26 ((!v37), ()))))))) (W.call (law21_one (i.1, (i.2.1, (i.2.2.1, (i.2.2.2.1, (i.2.2.2.2.1, ())))))) fun v38 => W.call (deal_At (v1.1, (v1.2.1, ())) (v38.1, (v38.2.1, (v38.2.2.1, (v38.2.2.2.1, (v38.2.2.2.2.1, ()))))) from_ to_ qty price) fun v39 => 
    W.cnd (v39.2.1 != 0) (W.call (law21_plain (v39.1.1, (v39.1.2.1, ()))) fun v40 => W.call (ref21_Same (v40.1, (v40.2.1, ())) ([], ([], ()))) fun v41 => 
     W.cnd v41 (W.call (law21_lives) fun v42 => some v42)
      (some false))
     (
     W.join (fun (z43 : Bool × Unit) => 
      W.cnd z43.1 (some false)
       (
       W.join (fun (z44 : Bool × Unit) => 
        W.cnd z44.1 (some false)
         (W.call (deal_At (v39.1.1, (v39.1.2.1, ())) (v38.1, (v38.2.1, (v38.2.2.1, (v38.2.2.2.1, (v38.2.2.2.2.1, ()))))) to_ from_ qty price) fun v45 => 
         W.join (fun (z46 : Bool × Unit) => 
          W.cnd z46.1 (some false)
           (W.call (deal_At (v1.1, (v1.2.1, ())) (v38.1, (v38.2.1, (v38.2.2.1, (v38.2.2.2.1, (v38.2.2.2.2.1, ()))))) from_ to_ qty v38.2.2.1) fun v47 => 
           W.cnd (v47.2.1 != 0) (W.call (law21_lives) fun v48 => some v48)
            (W.call (purse_Get v47.1.2.1 from_) fun v49 => W.call (purse_Get v1.2.1 from_) fun v50 => 
            W.cnd (v49 == v50) (W.call (law21_lives) fun v51 => some v51)
             (some false))))
          fun k52 => 
          W.cnd (v45.2.1 == 0) (W.call (law21_plain (v45.1.1, (v45.1.2.1, ()))) fun v53 => W.call (law21_plain (v1.1, (v1.2.1, ()))) fun v54 => W.call (ref21_Same (v53.1, (v53.2.1, ())) (v54.1, (v54.2.1, ()))) fun v55 => (k52 ((!v55), ())))
           ((k52 (false, ())))))
        fun k56 => 
        W.cnd (Go.Vc.notIf true ((other.1 == from_.1) && (other.2.1 == from_.2.1))) (
         W.cnd (Go.Vc.notIf true ((other.1 == to_.1) && (other.2.1 == to_.2.1))) (W.call (book_Of v39.1.1 other) fun v57 => W.call (book_Of v1.1 other) fun v58 => W.call (ref11_Same v57 v58) fun v59 => 
          W.cnd (!v59) ((k56 (true, ())))
           (W.call (purse_Get v39.1.2.1 other) fun v60 => W.call (purse_Get v1.2.1 other) fun v61 => (k56 ((v60 != v61), ()))))
          ((k56 (false, ()))))
         ((k56 (false, ())))))
      fun k62 => W.call (book_Balanced v39.1.1) fun v63 => W.call (book_Balanced v1.1) fun v64 => 
      W.cnd (Go.Vc.notIf true (v63 == v64)) (W.both (W.both ((k62 (true, ()))) ((k62 (true, ())))) ((k62 (true, ()))))
       (W.both (W.both (W.call (purse_Total v39.1.2.1) fun v65 => W.call (purse_Total v1.2.1) fun v66 => 
         W.cnd (Go.Vc.notIf true ((v65.1 == v66.1) && (v65.2.1 == v66.2.1))) ((k62 (true, ())))
          (W.call (deal_Is (v39.1.1, (v39.1.2.1, ()))) fun v67 => (k62 ((!v67), ())))) (W.call (purse_Total v39.1.2.1) fun v68 => W.call (purse_Total v1.2.1) fun v69 => 
         W.cnd (Go.Vc.notIf true ((v68.1 == v69.1) && (v68.2.1 == v69.2.1))) ((k62 (true, ())))
          (W.call (deal_Is (v39.1.1, (v39.1.2.1, ()))) fun v70 => (k62 ((!v70), ()))))) (W.call (purse_Total v39.1.2.1) fun v71 => W.call (purse_Total v1.2.1) fun v72 => 
        W.cnd (Go.Vc.notIf true ((v71.1 == v72.1) && (v71.2.1 == v72.2.1))) ((k62 (true, ())))
         (W.call (deal_Is (v39.1.1, (v39.1.2.1, ()))) fun v73 => (k62 ((!v73), ())))))))) (W.call (law21_one (i.1, (i.2.1, (i.2.2.1, (i.2.2.2.1, (i.2.2.2.2.1, ())))))) fun v74 => W.call (deal_At (v1.1, (v1.2.1, ())) (v74.1, (v74.2.1, (v74.2.2.1, (v74.2.2.2.1, (v74.2.2.2.2.1, ()))))) from_ to_ qty price) fun v75 => 
   W.cnd (v75.2.1 != 0) (W.call (law21_plain (v75.1.1, (v75.1.2.1, ()))) fun v76 => W.call (ref21_Same (v76.1, (v76.2.1, ())) ([], ([], ()))) fun v77 => 
    W.cnd v77 (W.call (law21_lives) fun v78 => some v78)
     (some false))
    (
    W.join (fun (z79 : Bool × Unit) => 
     W.cnd z79.1 (some false)
      (
      W.join (fun (z80 : Bool × Unit) => 
       W.cnd z80.1 (some false)
        (W.call (deal_At (v75.1.1, (v75.1.2.1, ())) (v74.1, (v74.2.1, (v74.2.2.1, (v74.2.2.2.1, (v74.2.2.2.2.1, ()))))) to_ from_ qty price) fun v81 => 
        W.join (fun (z82 : Bool × Unit) => 
         W.cnd z82.1 (some false)
          (W.call (deal_At (v1.1, (v1.2.1, ())) (v74.1, (v74.2.1, (v74.2.2.1, (v74.2.2.2.1, (v74.2.2.2.2.1, ()))))) from_ to_ qty v74.2.2.1) fun v83 => 
          W.cnd (v83.2.1 != 0) (W.call (law21_lives) fun v84 => some v84)
           (W.call (purse_Get v83.1.2.1 from_) fun v85 => W.call (purse_Get v1.2.1 from_) fun v86 => 
           W.cnd (v85 == v86) (W.call (law21_lives) fun v87 => some v87)
            (some false))))
         fun k88 => 
         W.cnd (v81.2.1 == 0) (W.call (law21_plain (v81.1.1, (v81.1.2.1, ()))) fun v89 => W.call (law21_plain (v1.1, (v1.2.1, ()))) fun v90 => W.call (ref21_Same (v89.1, (v89.2.1, ())) (v90.1, (v90.2.1, ()))) fun v91 => (k88 ((!v91), ())))
          ((k88 (false, ())))))
       fun k92 => 
       W.cnd (Go.Vc.notIf true ((other.1 == from_.1) && (other.2.1 == from_.2.1))) (
        W.cnd (Go.Vc.notIf true ((other.1 == to_.1) && (other.2.1 == to_.2.1))) (W.call (book_Of v75.1.1 other) fun v93 => W.call (book_Of v1.1 other) fun v94 => W.call (ref11_Same v93 v94) fun v95 => 
         W.cnd (!v95) ((k92 (true, ())))
          (W.call (purse_Get v75.1.2.1 other) fun v96 => W.call (purse_Get v1.2.1 other) fun v97 => (k92 ((v96 != v97), ()))))
         ((k92 (false, ()))))
        ((k92 (false, ())))))
     fun k98 => W.call (book_Balanced v75.1.1) fun v99 => W.call (book_Balanced v1.1) fun v100 => 
     W.cnd (Go.Vc.notIf true (v99 == v100)) (W.both (W.both ((k98 (true, ()))) ((k98 (true, ())))) ((k98 (true, ()))))
      (W.both (W.both (W.call (purse_Total v75.1.2.1) fun v101 => W.call (purse_Total v1.2.1) fun v102 => 
        W.cnd (Go.Vc.notIf true ((v101.1 == v102.1) && (v101.2.1 == v102.2.1))) ((k98 (true, ())))
         (W.call (deal_Is (v75.1.1, (v75.1.2.1, ()))) fun v103 => (k98 ((!v103), ())))) (W.call (purse_Total v75.1.2.1) fun v104 => W.call (purse_Total v1.2.1) fun v105 => 
        W.cnd (Go.Vc.notIf true ((v104.1 == v105.1) && (v104.2.1 == v105.2.1))) ((k98 (true, ())))
         (W.call (deal_Is (v75.1.1, (v75.1.2.1, ()))) fun v106 => (k98 ((!v106), ()))))) (W.call (purse_Total v75.1.2.1) fun v107 => W.call (purse_Total v1.2.1) fun v108 => 
       W.cnd (Go.Vc.notIf true ((v107.1 == v108.1) && (v107.2.1 == v108.2.1))) ((k98 (true, ())))
        (W.call (deal_Is (v75.1.1, (v75.1.2.1, ()))) fun v109 => (k98 ((!v109), ())))))))) (W.both (W.both (W.call (law21_Few l p) fun v110 => W.both (W.call (law21_one (i.1, (i.2.1, (i.2.2.1, (i.2.2.2.1, (i.2.2.2.2.1, ())))))) fun v111 => W.call (deal_At (v110.1, (v110.2.1, ())) (v111.1, (v111.2.1, (v111.2.2.1, (v111.2.2.2.1, (v111.2.2.2.2.1, ()))))) from_ to_ qty price) fun v112 => 
     W.cnd (v112.2.1 != 0) (W.call (law21_plain (v112.1.1, (v112.1.2.1, ()))) fun v113 => W.call (ref21_Same (v113.1, (v113.2.1, ())) ([], ([], ()))) fun v114 => 
      W.cnd v114 (W.call (law21_lives) fun v115 => some v115)
       (some false))
      (
      W.join (fun (z116 : Bool × Unit) => 
       W.cnd z116.1 (some false)
        (
        W.join (fun (z117 : Bool × Unit) => 
         W.cnd z117.1 (some false)
          (W.call (deal_At (v112.1.1, (v112.1.2.1, ())) (v111.1, (v111.2.1, (v111.2.2.1, (v111.2.2.2.1, (v111.2.2.2.2.1, ()))))) to_ from_ qty price) fun v118 => 
          W.join (fun (z119 : Bool × Unit) => 
           W.cnd z119.1 (some false)
            (W.call (deal_At (v110.1, (v110.2.1, ())) (v111.1, (v111.2.1, (v111.2.2.1, (v111.2.2.2.1, (v111.2.2.2.2.1, ()))))) from_ to_ qty v111.2.2.1) fun v120 => 
            W.cnd (v120.2.1 != 0) (W.call (law21_lives) fun v121 => some v121)
             (W.call (purse_Get v120.1.2.1 from_) fun v122 => W.call (purse_Get v110.2.1 from_) fun v123 => 
             W.cnd (v122 == v123) (W.call (law21_lives) fun v124 => some v124)
              (some false))))
           fun k125 => 
           W.cnd (v118.2.1 == 0) (W.call (law21_plain (v118.1.1, (v118.1.2.1, ()))) fun v126 => W.call (law21_plain (v110.1, (v110.2.1, ()))) fun v127 => W.call (ref21_Same (v126.1, (v126.2.1, ())) (v127.1, (v127.2.1, ()))) fun v128 => (k125 ((!v128), ())))
            ((k125 (false, ())))))
         fun k129 => 
         W.cnd (Go.Vc.notIf true ((other.1 == from_.1) && (other.2.1 == from_.2.1))) (
          W.cnd (Go.Vc.notIf true ((other.1 == to_.1) && (other.2.1 == to_.2.1))) (W.call (book_Of v112.1.1 other) fun v130 => W.call (book_Of v110.1 other) fun v131 => W.call (ref11_Same v130 v131) fun v132 => 
           W.cnd (!v132) ((k129 (true, ())))
            (W.call (purse_Get v112.1.2.1 other) fun v133 => W.call (purse_Get v110.2.1 other) fun v134 => (k129 ((v133 != v134), ()))))
           ((k129 (false, ()))))
          ((k129 (false, ())))))
       fun k135 => W.call (book_Balanced v112.1.1) fun v136 => W.call (book_Balanced v110.1) fun v137 => 
       W.cnd (Go.Vc.notIf true (v136 == v137)) (W.both (W.both ((k135 (true, ()))) ((k135 (true, ())))) ((k135 (true, ()))))
        (W.both (W.both (W.call (purse_Total v112.1.2.1) fun v138 => W.call (purse_Total v110.2.1) fun v139 => 
          W.cnd (Go.Vc.notIf true ((v138.1 == v139.1) && (v138.2.1 == v139.2.1))) ((k135 (true, ())))
           (W.call (deal_Is (v112.1.1, (v112.1.2.1, ()))) fun v140 => (k135 ((!v140), ())))) (W.call (purse_Total v112.1.2.1) fun v141 => W.call (purse_Total v110.2.1) fun v142 => 
          W.cnd (Go.Vc.notIf true ((v141.1 == v142.1) && (v141.2.1 == v142.2.1))) ((k135 (true, ())))
           (W.call (deal_Is (v112.1.1, (v112.1.2.1, ()))) fun v143 => (k135 ((!v143), ()))))) (W.call (purse_Total v112.1.2.1) fun v144 => W.call (purse_Total v110.2.1) fun v145 => 
         W.cnd (Go.Vc.notIf true ((v144.1 == v145.1) && (v144.2.1 == v145.2.1))) ((k135 (true, ())))
          (W.call (deal_Is (v112.1.1, (v112.1.2.1, ()))) fun v146 => (k135 ((!v146), ()))))))) (W.call (law21_one (i.1, (i.2.1, (i.2.2.1, (i.2.2.2.1, (i.2.2.2.2.1, ())))))) fun v147 => W.call (deal_At (v110.1, (v110.2.1, ())) (v147.1, (v147.2.1, (v147.2.2.1, (v147.2.2.2.1, (v147.2.2.2.2.1, ()))))) from_ to_ qty price) fun v148 => 
     W.cnd (v148.2.1 != 0) (W.call (law21_plain (v148.1.1, (v148.1.2.1, ()))) fun v149 => W.call (ref21_Same (v149.1, (v149.2.1, ())) ([], ([], ()))) fun v150 => 
      W.cnd v150 (W.call (law21_lives) fun v151 => some v151)
       (some false))
      (
      W.join (fun (z152 : Bool × Unit) => 
       W.cnd z152.1 (some false)
        (
        W.join (fun (z153 : Bool × Unit) => 
         W.cnd z153.1 (some false)
          (W.call (deal_At (v148.1.1, (v148.1.2.1, ())) (v147.1, (v147.2.1, (v147.2.2.1, (v147.2.2.2.1, (v147.2.2.2.2.1, ()))))) to_ from_ qty price) fun v154 => 
          W.join (fun (z155 : Bool × Unit) => 
           W.cnd z155.1 (some false)
            (W.call (deal_At (v110.1, (v110.2.1, ())) (v147.1, (v147.2.1, (v147.2.2.1, (v147.2.2.2.1, (v147.2.2.2.2.1, ()))))) from_ to_ qty v147.2.2.1) fun v156 => 
            W.cnd (v156.2.1 != 0) (W.call (law21_lives) fun v157 => some v157)
             (W.call (purse_Get v156.1.2.1 from_) fun v158 => W.call (purse_Get v110.2.1 from_) fun v159 => 
             W.cnd (v158 == v159) (W.call (law21_lives) fun v160 => some v160)
              (some false))))
           fun k161 => 
           W.cnd (v154.2.1 == 0) (W.call (law21_plain (v154.1.1, (v154.1.2.1, ()))) fun v162 => W.call (law21_plain (v110.1, (v110.2.1, ()))) fun v163 => W.call (ref21_Same (v162.1, (v162.2.1, ())) (v163.1, (v163.2.1, ()))) fun v164 => (k161 ((!v164), ())))
            ((k161 (false, ())))))
         fun k165 => 
         W.cnd (Go.Vc.notIf true ((other.1 == from_.1) && (other.2.1 == from_.2.1))) (
          W.cnd (Go.Vc.notIf true ((other.1 == to_.1) && (other.2.1 == to_.2.1))) (W.call (book_Of v148.1.1 other) fun v166 => W.call (book_Of v110.1 other) fun v167 => W.call (ref11_Same v166 v167) fun v168 => 
           W.cnd (!v168) ((k165 (true, ())))
            (W.call (purse_Get v148.1.2.1 other) fun v169 => W.call (purse_Get v110.2.1 other) fun v170 => (k165 ((v169 != v170), ()))))
           ((k165 (false, ()))))
          ((k165 (false, ())))))
       fun k171 => W.call (book_Balanced v148.1.1) fun v172 => W.call (book_Balanced v110.1) fun v173 => 
       W.cnd (Go.Vc.notIf true (v172 == v173)) (W.both (W.both ((k171 (true, ()))) ((k171 (true, ())))) ((k171 (true, ()))))
        (W.both (W.both (W.call (purse_Total v148.1.2.1) fun v174 => W.call (purse_Total v110.2.1) fun v175 => 
          W.cnd (Go.Vc.notIf true ((v174.1 == v175.1) && (v174.2.1 == v175.2.1))) ((k171 (true, ())))
           (W.call (deal_Is (v148.1.1, (v148.1.2.1, ()))) fun v176 => (k171 ((!v176), ())))) (W.call (purse_Total v148.1.2.1) fun v177 => W.call (purse_Total v110.2.1) fun v178 => 
          W.cnd (Go.Vc.notIf true ((v177.1 == v178.1) && (v177.2.1 == v178.2.1))) ((k171 (true, ())))
           (W.call (deal_Is (v148.1.1, (v148.1.2.1, ()))) fun v179 => (k171 ((!v179), ()))))) (W.call (purse_Total v148.1.2.1) fun v180 => W.call (purse_Total v110.2.1) fun v181 => 
         W.cnd (Go.Vc.notIf true ((v180.1 == v181.1) && (v180.2.1 == v181.2.1))) ((k171 (true, ())))
          (W.call (deal_Is (v148.1.1, (v148.1.2.1, ()))) fun v182 => (k171 ((!v182), ())))))))) (W.call (law21_Few l p) fun v183 => W.call (law21_one (i.1, (i.2.1, (i.2.2.1, (i.2.2.2.1, (i.2.2.2.2.1, ())))))) fun v184 => W.call (deal_At (v183.1, (v183.2.1, ())) (v184.1, (v184.2.1, (v184.2.2.1, (v184.2.2.2.1, (v184.2.2.2.2.1, ()))))) from_ to_ qty price) fun v185 => 
    W.cnd (v185.2.1 != 0) (W.call (law21_plain (v185.1.1, (v185.1.2.1, ()))) fun v186 => W.call (ref21_Same (v186.1, (v186.2.1, ())) ([], ([], ()))) fun v187 => 
     W.cnd v187 (W.call (law21_lives) fun v188 => some v188)
      (some false))
     (
     W.join (fun (z189 : Bool × Unit) => 
      W.cnd z189.1 (some false)
       (
       W.join (fun (z190 : Bool × Unit) => 
        W.cnd z190.1 (some false)
         (W.call (deal_At (v185.1.1, (v185.1.2.1, ())) (v184.1, (v184.2.1, (v184.2.2.1, (v184.2.2.2.1, (v184.2.2.2.2.1, ()))))) to_ from_ qty price) fun v191 => 
         W.join (fun (z192 : Bool × Unit) => 
          W.cnd z192.1 (some false)
           (W.call (deal_At (v183.1, (v183.2.1, ())) (v184.1, (v184.2.1, (v184.2.2.1, (v184.2.2.2.1, (v184.2.2.2.2.1, ()))))) from_ to_ qty v184.2.2.1) fun v193 => 
           W.cnd (v193.2.1 != 0) (W.call (law21_lives) fun v194 => some v194)
            (W.call (purse_Get v193.1.2.1 from_) fun v195 => W.call (purse_Get v183.2.1 from_) fun v196 => 
            W.cnd (v195 == v196) (W.call (law21_lives) fun v197 => some v197)
             (some false))))
          fun k198 => 
          W.cnd (v191.2.1 == 0) (W.call (law21_plain (v191.1.1, (v191.1.2.1, ()))) fun v199 => W.call (law21_plain (v183.1, (v183.2.1, ()))) fun v200 => W.call (ref21_Same (v199.1, (v199.2.1, ())) (v200.1, (v200.2.1, ()))) fun v201 => (k198 ((!v201), ())))
           ((k198 (false, ())))))
        fun k202 => 
        W.cnd (Go.Vc.notIf true ((other.1 == from_.1) && (other.2.1 == from_.2.1))) (
         W.cnd (Go.Vc.notIf true ((other.1 == to_.1) && (other.2.1 == to_.2.1))) (W.call (book_Of v185.1.1 other) fun v203 => W.call (book_Of v183.1 other) fun v204 => W.call (ref11_Same v203 v204) fun v205 => 
          W.cnd (!v205) ((k202 (true, ())))
           (W.call (purse_Get v185.1.2.1 other) fun v206 => W.call (purse_Get v183.2.1 other) fun v207 => (k202 ((v206 != v207), ()))))
          ((k202 (false, ()))))
         ((k202 (false, ())))))
      fun k208 => W.call (book_Balanced v185.1.1) fun v209 => W.call (book_Balanced v183.1) fun v210 => 
      W.cnd (Go.Vc.notIf true (v209 == v210)) (W.both (W.both ((k208 (true, ()))) ((k208 (true, ())))) ((k208 (true, ()))))
       (W.both (W.both (W.call (purse_Total v185.1.2.1) fun v211 => W.call (purse_Total v183.2.1) fun v212 => 
         W.cnd (Go.Vc.notIf true ((v211.1 == v212.1) && (v211.2.1 == v212.2.1))) ((k208 (true, ())))
          (W.call (deal_Is (v185.1.1, (v185.1.2.1, ()))) fun v213 => (k208 ((!v213), ())))) (W.call (purse_Total v185.1.2.1) fun v214 => W.call (purse_Total v183.2.1) fun v215 => 
         W.cnd (Go.Vc.notIf true ((v214.1 == v215.1) && (v214.2.1 == v215.2.1))) ((k208 (true, ())))
          (W.call (deal_Is (v185.1.1, (v185.1.2.1, ()))) fun v216 => (k208 ((!v216), ()))))) (W.call (purse_Total v185.1.2.1) fun v217 => W.call (purse_Total v183.2.1) fun v218 => 
        W.cnd (Go.Vc.notIf true ((v217.1 == v218.1) && (v217.2.1 == v218.2.1))) ((k208 (true, ())))
         (W.call (deal_Is (v185.1.1, (v185.1.2.1, ()))) fun v219 => (k208 ((!v219), ())))))))) (W.both (W.call (law21_Few l p) fun v220 => W.call (law21_one (i.1, (i.2.1, (i.2.2.1, (i.2.2.2.1, (i.2.2.2.2.1, ())))))) fun v221 => W.call (deal_At (v220.1, (v220.2.1, ())) (v221.1, (v221.2.1, (v221.2.2.1, (v221.2.2.2.1, (v221.2.2.2.2.1, ()))))) from_ to_ qty price) fun v222 => 
    W.cnd (v222.2.1 != 0) (W.call (law21_plain (v222.1.1, (v222.1.2.1, ()))) fun v223 => W.call (ref21_Same (v223.1, (v223.2.1, ())) ([], ([], ()))) fun v224 => 
     W.cnd v224 (W.call (law21_lives) fun v225 => some v225)
      (some false))
     (
     W.join (fun (z226 : Bool × Unit) => 
      W.cnd z226.1 (some false)
       (
       W.join (fun (z227 : Bool × Unit) => 
        W.cnd z227.1 (some false)
         (W.call (deal_At (v222.1.1, (v222.1.2.1, ())) (v221.1, (v221.2.1, (v221.2.2.1, (v221.2.2.2.1, (v221.2.2.2.2.1, ()))))) to_ from_ qty price) fun v228 => 
         W.join (fun (z229 : Bool × Unit) => 
          W.cnd z229.1 (some false)
           (W.call (deal_At (v220.1, (v220.2.1, ())) (v221.1, (v221.2.1, (v221.2.2.1, (v221.2.2.2.1, (v221.2.2.2.2.1, ()))))) from_ to_ qty v221.2.2.1) fun v230 => 
           W.cnd (v230.2.1 != 0) (W.call (law21_lives) fun v231 => some v231)
            (W.call (purse_Get v230.1.2.1 from_) fun v232 => W.call (purse_Get v220.2.1 from_) fun v233 => 
            W.cnd (v232 == v233) (W.call (law21_lives) fun v234 => some v234)
             (some false))))
          fun k235 => 
          W.cnd (v228.2.1 == 0) (W.call (law21_plain (v228.1.1, (v228.1.2.1, ()))) fun v236 => W.call (law21_plain (v220.1, (v220.2.1, ()))) fun v237 => W.call (ref21_Same (v236.1, (v236.2.1, ())) (v237.1, (v237.2.1, ()))) fun v238 => (k235 ((!v238), ())))
           ((k235 (false, ())))))
        fun k239 => 
        W.cnd (Go.Vc.notIf true ((other.1 == from_.1) && (other.2.1 == from_.2.1))) (
         W.cnd (Go.Vc.notIf true ((other.1 == to_.1) && (other.2.1 == to_.2.1))) (W.call (book_Of v222.1.1 other) fun v240 => W.call (book_Of v220.1 other) fun v241 => W.call (ref11_Same v240 v241) fun v242 => 
          W.cnd (!v242) ((k239 (true, ())))
           (W.call (purse_Get v222.1.2.1 other) fun v243 => W.call (purse_Get v220.2.1 other) fun v244 => (k239 ((v243 != v244), ()))))
          ((k239 (false, ()))))
         ((k239 (false, ())))))
      fun k245 => W.call (book_Balanced v222.1.1) fun v246 => W.call (book_Balanced v220.1) fun v247 => 
      W.cnd (Go.Vc.notIf true (v246 == v247)) (W.both (W.both ((k245 (true, ()))) ((k245 (true, ())))) ((k245 (true, ()))))
       (W.both (W.both (W.call (purse_Total v222.1.2.1) fun v248 => W.call (purse_Total v220.2.1) fun v249 => 
         W.cnd (Go.Vc.notIf true ((v248.1 == v249.1) && (v248.2.1 == v249.2.1))) ((k245 (true, ())))
          (W.call (deal_Is (v222.1.1, (v222.1.2.1, ()))) fun v250 => (k245 ((!v250), ())))) (W.call (purse_Total v222.1.2.1) fun v251 => W.call (purse_Total v220.2.1) fun v252 => 
         W.cnd (Go.Vc.notIf true ((v251.1 == v252.1) && (v251.2.1 == v252.2.1))) ((k245 (true, ())))
          (W.call (deal_Is (v222.1.1, (v222.1.2.1, ()))) fun v253 => (k245 ((!v253), ()))))) (W.call (purse_Total v222.1.2.1) fun v254 => W.call (purse_Total v220.2.1) fun v255 => 
        W.cnd (Go.Vc.notIf true ((v254.1 == v255.1) && (v254.2.1 == v255.2.1))) ((k245 (true, ())))
         (W.call (deal_Is (v222.1.1, (v222.1.2.1, ()))) fun v256 => (k245 ((!v256), ()))))))) (W.call (law21_Few l p) fun v257 => W.call (law21_one (i.1, (i.2.1, (i.2.2.1, (i.2.2.2.1, (i.2.2.2.2.1, ())))))) fun v258 => W.call (deal_At (v257.1, (v257.2.1, ())) (v258.1, (v258.2.1, (v258.2.2.1, (v258.2.2.2.1, (v258.2.2.2.2.1, ()))))) from_ to_ qty price) fun v259 => 
    W.cnd (v259.2.1 != 0) (W.call (law21_plain (v259.1.1, (v259.1.2.1, ()))) fun v260 => W.call (ref21_Same (v260.1, (v260.2.1, ())) ([], ([], ()))) fun v261 => 
     W.cnd v261 (W.call (law21_lives) fun v262 => some v262)
      (some false))
     (
     W.join (fun (z263 : Bool × Unit) => 
      W.cnd z263.1 (some false)
       (
       W.join (fun (z264 : Bool × Unit) => 
        W.cnd z264.1 (some false)
         (W.call (deal_At (v259.1.1, (v259.1.2.1, ())) (v258.1, (v258.2.1, (v258.2.2.1, (v258.2.2.2.1, (v258.2.2.2.2.1, ()))))) to_ from_ qty price) fun v265 => 
         W.join (fun (z266 : Bool × Unit) => 
          W.cnd z266.1 (some false)
           (W.call (deal_At (v257.1, (v257.2.1, ())) (v258.1, (v258.2.1, (v258.2.2.1, (v258.2.2.2.1, (v258.2.2.2.2.1, ()))))) from_ to_ qty v258.2.2.1) fun v267 => 
           W.cnd (v267.2.1 != 0) (W.call (law21_lives) fun v268 => some v268)
            (W.call (purse_Get v267.1.2.1 from_) fun v269 => W.call (purse_Get v257.2.1 from_) fun v270 => 
            W.cnd (v269 == v270) (W.call (law21_lives) fun v271 => some v271)
             (some false))))
          fun k272 => 
          W.cnd (v265.2.1 == 0) (W.call (law21_plain (v265.1.1, (v265.1.2.1, ()))) fun v273 => W.call (law21_plain (v257.1, (v257.2.1, ()))) fun v274 => W.call (ref21_Same (v273.1, (v273.2.1, ())) (v274.1, (v274.2.1, ()))) fun v275 => (k272 ((!v275), ())))
           ((k272 (false, ())))))
        fun k276 => 
        W.cnd (Go.Vc.notIf true ((other.1 == from_.1) && (other.2.1 == from_.2.1))) (
         W.cnd (Go.Vc.notIf true ((other.1 == to_.1) && (other.2.1 == to_.2.1))) (W.call (book_Of v259.1.1 other) fun v277 => W.call (book_Of v257.1 other) fun v278 => W.call (ref11_Same v277 v278) fun v279 => 
          W.cnd (!v279) ((k276 (true, ())))
           (W.call (purse_Get v259.1.2.1 other) fun v280 => W.call (purse_Get v257.2.1 other) fun v281 => (k276 ((v280 != v281), ()))))
          ((k276 (false, ()))))
         ((k276 (false, ())))))
      fun k282 => W.call (book_Balanced v259.1.1) fun v283 => W.call (book_Balanced v257.1) fun v284 => 
      W.cnd (Go.Vc.notIf true (v283 == v284)) (W.both (W.both ((k282 (true, ()))) ((k282 (true, ())))) ((k282 (true, ()))))
       (W.both (W.both (W.call (purse_Total v259.1.2.1) fun v285 => W.call (purse_Total v257.2.1) fun v286 => 
         W.cnd (Go.Vc.notIf true ((v285.1 == v286.1) && (v285.2.1 == v286.2.1))) ((k282 (true, ())))
          (W.call (deal_Is (v259.1.1, (v259.1.2.1, ()))) fun v287 => (k282 ((!v287), ())))) (W.call (purse_Total v259.1.2.1) fun v288 => W.call (purse_Total v257.2.1) fun v289 => 
         W.cnd (Go.Vc.notIf true ((v288.1 == v289.1) && (v288.2.1 == v289.2.1))) ((k282 (true, ())))
          (W.call (deal_Is (v259.1.1, (v259.1.2.1, ()))) fun v290 => (k282 ((!v290), ()))))) (W.call (purse_Total v259.1.2.1) fun v291 => W.call (purse_Total v257.2.1) fun v292 => 
        W.cnd (Go.Vc.notIf true ((v291.1 == v292.1) && (v291.2.1 == v292.2.1))) ((k282 (true, ())))
         (W.call (deal_Is (v259.1.1, (v259.1.2.1, ()))) fun v293 => (k282 ((!v293), ())))))))))
noncomputable def law21_DealKeeps (l : List APos') (p : List AFlow') (i : AInst') (from_ : AUnit') (to_ : AUnit') (other : AUnit') (qty : Int) (price : Int) : Option Bool := law21_DealKeepsW stdW l p i from_ to_ other qty price
noncomputable def law21_DealKeeps_s : ES := ⟨(.pair (.slc tAPos) (.pair (.slc tAFlow) (.pair tAInst (.pair tAUnit (.pair tAUnit (.pair tAUnit (.pair (.int .i64) (.pair (.int .i64) .unit)))))))), (.v .bool), fun x => law21_DealKeeps x.1 x.2.1 x.2.2.1 x.2.2.2.1 x.2.2.2.2.1 x.2.2.2.2.2.1 x.2.2.2.2.2.2.1 x.2.2.2.2.2.2.2.1⟩
theorem law21_DealKeeps_ok : ECok Try.prog 10 (.es law21_DealKeeps_s)   := es_ok (A := (.pair (.slc tAPos) (.pair (.slc tAFlow) (.pair tAInst (.pair tAUnit (.pair tAUnit (.pair tAUnit (.pair (.int .i64) (.pair (.int .i64) .unit))))))))) (Q := (.v .bool)) (fun W x => law21_DealKeepsW W x.1 x.2.1 x.2.2.1 x.2.2.2.1 x.2.2.2.2.1 x.2.2.2.2.2.1 x.2.2.2.2.2.2.1 x.2.2.2.2.2.2.2.1) [(37, .es law21_Few_s), (38, .es law21_one_s), (39, .es deal_At_s), (46, .es law21_plain_s), (45, .es ref21_Same_s), (40, .es law21_lives_s), (36, .es book_Balanced_s), (15, .es purse_Total_s), (47, .es deal_Is_s), (49, .es book_Of_s), (48, .es ref11_Same_s), (18, .es purse_Get_s)] ⟨law21_Few_ok, law21_one_ok, deal_At_ok, law21_plain_ok, ref21_Same_ok, law21_lives_ok, book_Balanced_ok, purse_Total_ok, deal_Is_ok, book_Of_ok, ref11_Same_ok, purse_Get_ok, trivial⟩ [(1, [0], (.rd 0 (.rd 1 (.three 2 3 5 (.two 3 5 (.two 4 5 (ofL [(5, false), (6, false), (7, false)]) (ofL [(4, false), (6, false), (7, false)])) (ofL [(3, false), (4, false), (6, false), (7, false)])) (.two 2 5 (.two 4 5 (ofL [(5, false), (6, false), (7, false)]) (ofL [(4, false), (6, false), (7, false)])) (ofL [(2, false), (4, false), (6, false), (7, false)])) (.two 2 3 (ofL [(3, false), (4, false), (6, false), (7, false)]) (ofL [(2, false), (4, false), (6, false), (7, false)])))))), (5, [], (.rd 0 (.rd 1 (.rd 3 (.rd 4 (.op 2 (.op 5 (.rd 6 (.rd 7 (.rd 8 (.rd 11 (.two 9 12 (.two 10 12 (ofL [(12, false), (13, false), (14, true), (15, true), (16, true), (17, false), (18, false), (19, true), (20, true)]) (ofL [(10, false), (13, false), (14, true), (15, true), (16, true), (17, false), (18, false), (19, true), (20, true)])) (ofL [(9, false), (10, false), (13, false), (14, true), (15, true), (16, true), (17, false), (18, false), (19, true), (20, true)]))))))))))))), (7, [], (ofL [(0, true), (1, true), (2, true), (3, true), (4, true), (5, true), (6, true), (7, true), (8, true), (9, true), (10, true), (11, true), (13, true), (14, true), (15, true), (12, false), (16, false), (17, false), (18, true), (19, true), (20, true), (21, true), (22, true), (24, true), (25, true), (26, true), (23, false), (27, false), (28, true), (29, true), (30, true)])), (10, [], (ofL [(0, true), (1, true), (2, true), (3, true), (5, true), (4, false), (6, false), (7, false), (8, true), (9, true)])), (13, [], (ofL [(0, true), (1, true), (2, true), (3, true), (4, true), (5, true), (7, true), (8, true), (9, true), (6, false), (10, false), (11, true), (12, true), (13, true), (14, false), (15, true), (16, true)]))] [(500068, ⟨[(68, .t .bool)], [], []⟩), (500099, ⟨[(99, .t .bool)], [], []⟩), (500119, ⟨[(119, .t .bool)], [], []⟩)] [] Try.func10 rfl (by decide +kernel) rfl rfl (fun W x => by kernel_rfl)
end Go.Proofs.Ytbpbkmngbhgpfaa

namespace Go.Proofs.Ytbpbkmngbhgpfaa
open Go Go.Vc Go.RowKit
end Go.Proofs.Ytbpbkmngbhgpfaa

namespace Go.Proofs.Ytbpbkmngbhgpfaa
open Go Go.Vc Go.RowKit
theorem call_eq {α β : Type} {o : Option α} {a : α} (h : o = some a) (K : α → Option β) : stdW.call o K = K a := by subst h; rfl
end Go.Proofs.Ytbpbkmngbhgpfaa

namespace Go.Vc
open Go Go.RowKit
variable {β : Type}
/-! ### loops over a list -/
theorem loop_list {α S : Type} {l : List α} (hl : l.length ≤ 9223372036854775807) {f : Int × S → (Int × S → Option β) → Option β} (Inv : Nat → S → Prop) (g : List α → S → Option β) {s0 : S} (h0 : Inv 0 s0)
    (hend : ∀ s (again : Int × S → Option β), Inv l.length s → f ((l.length : Int), s) again = g [] s)
    (hstep : ∀ i (h : i < l.length) s, Inv i s → ∀ again : Int × S → Option β, (∀ s', Inv (i + 1) s' → again (((i + 1 : Nat) : Int), s') = g (l.drop (i + 1)) s') → f ((i : Int), s) again = g (l[i] :: l.drop (i + 1)) s) :
    stdW.loop f (0, s0) = g l s0 := by
  refine (loop_std (fun z => (l.length + 1) - z.1.toNat) (fun z => ∃ i : Nat, z.1 = (i : Int) ∧ i ≤ l.length ∧ Inv i z.2) (fun z => g (l.drop z.1.toNat) z.2) ⟨0, rfl, by omega, h0⟩ (by show l.length + 1 - 0 < _; omega) ?_).trans ?_
  · rintro ⟨z, s⟩ ⟨i, hi, hle, hs⟩ again ha
    dsimp only at hi hs
    subst hi
    simp only [Int.toNat_natCast]
    by_cases h : i < l.length
    · rw [drop_cons' l i h]
      refine hstep i h s hs again fun s' hs' => ?_
      have := ha (((i + 1 : Nat) : Int), s') ⟨i + 1, rfl, by omega, hs'⟩ (by simp only [Int.toNat_natCast]; omega)
      simpa only [Int.toNat_natCast] using this
    · obtain rfl : i = l.length := by omega
      rw [List.drop_length]
      exact hend s again hs
  · simp
theorem cnd_lt {i n : Nat} (h : i < n) (a b : Option β) : stdW.cnd (decide ((i : Int) < (n : Int))) a b = a := by rw [decide_eq_true (by omega)]; rfl
theorem cnd_end {n : Nat} (a b : Option β) : stdW.cnd (decide ((n : Int) < (n : Int))) a b = b := by rw [decide_eq_false (by omega)]; rfl
theorem cnd_y {c : Bool} (h : c = true) (a b : Option β) : stdW.cnd c a b = a := by subst h; rfl
theorem cnd_n {c : Bool} (h : c = false) (a b : Option β) : stdW.cnd c a b = b := by subst h; rfl
theorem idx_w {α : Type} {l : List α} {i : Nat} (h : i < l.length) (K : α → Option β) : stdW.idx l (i : Int) K = K l[i] := idx_eq h K
theorem nth_w {α : Type} {l : List α} {i : Nat} (h : i < l.length) (K : α → Option β) : stdW.nth l (Int.toNat (i : Int)) K = K l[i] := by
  show idxR l _ K = _
  unfold idxR
  rw [Int.toNat_natCast, List.getElem?_eq_getElem h]
theorem room_w {n b : Nat} (h : n ≤ 281474976710656) (h2 : n * b ≤ 140737488355328) (K : Option β) : stdW.room n b K = K := room_eq h h2 K
theorem nn_w {b : Int} (h : 0 ≤ b) (K : Option β) : stdW.nn b K = K := nn_eq h K
theorem both_w (a : Option β) : stdW.both a a = a := both_eq a
theorem join_w {X : Type} (k : X → Option β) (f : (X → Option β) → Option β) : stdW.join k f = f k := rfl
theorem bnd_w {i : Int} {n : Nat} (h : 0 ≤ i) (h2 : i ≤ n) (K : Nat → Option β) : stdW.bnd i n K = K i.toNat := bnd_eq h h2 K
theorem i64_s (i : Nat) (h : i < 9223372036854775807) : IntKind.i64.wrap ((i : Int) + 1) = ((i + 1 : Nat) : Int) := i64_succ i h
end Go.Vc
namespace Go.Vc
variable {β : Type}
/-- a loop that counts up to N -/
theorem loop_n {S : Type} {N : Nat} (hN : N < 9223372036854775807) {f : Int × S → (Int × S → Option β) → Option β} (Inv : Nat → S → Prop) (r : Option β) {s0 : S} (h0 : Inv 0 s0)
    (hend : ∀ s (again : Int × S → Option β), Inv N s → f (((N : Nat) : Int), s) again = r)
    (hstep : ∀ i, i < N → ∀ s, Inv i s → ∀ again : Int × S → Option β, (∀ s', Inv (i + 1) s' → again (((i + 1 : Nat) : Int), s') = r) → f ((i : Int), s) again = r) :
    stdW.loop f (0, s0) = r := by
  refine (loop_std (fun z => (N + 1) - z.1.toNat) (fun z => ∃ i : Nat, z.1 = (i : Int) ∧ i ≤ N ∧ Inv i z.2) (fun _ => r) ⟨0, rfl, by omega, h0⟩ (by show N + 1 - 0 < _; omega) ?_)
  rintro ⟨z, s⟩ ⟨i, hi, hle, hs⟩ again ha
  dsimp only at hi hs
  subst hi
  by_cases h : i < N
  · refine hstep i h s hs again fun s' hs' => ?_
    exact ha (((i + 1 : Nat) : Int), s') ⟨i + 1, rfl, by omega, hs'⟩ (by simp only [Int.toNat_natCast]; omega)
  · obtain rfl : i = N := by omega
    exact hend s again hs
/-! ### sums -/
def sumBy {α : Type} (f : α → Int) (l : List α) : Int := (l.map f).sum
theorem sumBy_nil {α : Type} (f : α → Int) : sumBy f [] = 0 := rfl
theorem sumBy_cons {α : Type} (f : α → Int) (x : α) (l : List α) : sumBy f (x :: l) = f x + sumBy f l := by simp [sumBy]
theorem sumBy_app {α : Type} (f : α → Int) (a b : List α) : sumBy f (a ++ b) = sumBy f a + sumBy f b := by simp [sumBy]
theorem sumBy_in {α : Type} {f : α → Int} {B : Int} : ∀ {l : List α}, (∀ x ∈ l, -B ≤ f x ∧ f x ≤ B) → -(B * (l.length : Int)) ≤ sumBy f l ∧ sumBy f l ≤ B * (l.length : Int)
  | [], _ => by simp [sumBy]
  | x :: l, h => by
    have h1 := h x (by simp)
    have h2 := sumBy_in (l := l) fun w hw => h w (by simp [hw])
    rw [sumBy_cons, List.length_cons, Int.natCast_add, Int.mul_add]
    omega
theorem filter_take {α : Type} (p : α → Bool) (l : List α) (i : Nat) (h : i < l.length) : (l.take (i + 1)).filter p = (l.take i).filter p ++ (if p l[i] = true then [l[i]] else []) := by
  rw [show l.take (i + 1) = l.take i ++ [l[i]] by simp, List.filter_append]
  congr 1
  by_cases hp : p l[i] = true <;> simp [hp]
end Go.Vc

