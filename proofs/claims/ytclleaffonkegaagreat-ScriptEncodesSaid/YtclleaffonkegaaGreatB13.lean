import Derived.Test.YtclleaffonkegaaGreatB12
namespace Go.Proofs.YtclleaffonkegaaGreat
open Go Go.Vc Go.RowKit
set_option synthInstance.maxSize 100000
set_option synthInstance.maxHeartbeats 0
set_option maxRecDepth 100000
theorem encodes_of (lives38 : law38_livesNW stdW = some true) (l : List En) (b : List Int) (h : ∀ x ∈ l, EnOk x) (hl : l.length ≤ 9223372036854775807) (hb : Bt b) : law38_ScriptEncodesNW stdW l b = some true := by
  unfold law38_ScriptEncodesNW
  have hw := few_we h
  have hn := few_len l
  have hB : okR (b.take 600, 0) := ⟨fun x hx => hb x (List.mem_of_mem_take hx), by rw [List.length_take]; omega⟩
  rw [call_w (r_few l hl), call_w (show ref01_CutW stdW b 600 = _ from r_cutB (n := 600) (by omega)), call_w (enc_w hw (by omega)), call_w (renc_w hw (by omega))]
  refine join_g fun k15 h15 => ?_
  rw [call_w (same_w (encO_len hw (by omega)))]
  show stdW.cnd false _ _ = _
  rw [cnd_n rfl]
  have e1 : ((encO (few l)).2.1 != (encO (few l)).2.1) = false := by simp
  show k15 (((encO (few l)).2.1 != (encO (few l)).2.1), ()) = _
  rw [e1, h15]
  show stdW.cnd false _ _ = _
  rw [cnd_n rfl, call_w (dec_w hB), call_w (r_refDec hB)]
  refine join_g fun k13 h13 => ?_
  have e2 : ((outD (dA (b.take 600))).2.1 != (outD (dA (b.take 600))).2.1) = false := by simp
  rw [cnd_n e2, call_w (r_sameE (dec_we hB).1 (dec_we hB).2)]
  show k13 (false, ()) = _
  rw [h13]
  show stdW.cnd false _ _ = _
  rw [cnd_n rfl]
  by_cases he : (encO (few l)).2.1 = 0
  · obtain ⟨h1, h2⟩ := encO_0 hw (by omega) he
    rw [cnd_n (by rw [he]; rfl), call_w (dec_w h1), h2]
    show stdW.cnd true _ _ = _
    rw [cnd_y rfl]
    show stdW.call (ref38_SameEntriesW stdW (few l) (few l)) _ = _
    rw [call_w (r_sameE hw (by omega))]
    show stdW.cnd true _ _ = _
    rw [cnd_y rfl, call_w lives38]
  · rw [cnd_y (bne_iff_ne.2 he), call_w lives38]
end Go.Proofs.YtclleaffonkegaaGreat

namespace Go.Proofs.YtclleaffonkegaaGreat
open Go Go.Vc Go.RowKit
set_option maxRecDepth 100000
theorem lives38_true : law38_livesNW stdW = some true := by kernel_rfl
end Go.Proofs.YtclleaffonkegaaGreat
