/- The walk of IdentMixes. Conditions: the tables hold their numbers. -/
import Derived.Test.YtbhnlodfpepbpaaDoorLive
import Derived.WalkSpells
import Derived.WalkLawsBesides
import Derived.Handy
import Derived.BigQuiet
namespace Go.Proofs.YtbhnlodfpepbpaaDoor
open Go.RowKit
attribute [local go_sem] bv_add bv_mul bv_sub bv_subc bv_xor bv_xor_byte bv_wrap_byte bv_ofInt u_beq u_bne c_1 add_sub_one unmix_mix mix_unmix
set_option maxHeartbeats 1000000 in
theorem mixes_walk (X : BitVec 64) (w : World) (t : Tabs w) :
    Calls Tryd.prog 3 #[.int .u64 (u X)] w fun e w' => e = .returned (.bool true) ∧ Below w.heap.size w w' := by
  go_enter Tryd.func3, Tryd.ntmps3
  go_wp2_with fail
  refine (mix_c _ _ t).mono ?_; rintro e w1 ⟨rfl, rfl⟩
  go_wp2_with fail
  refine (refMix_c _ _).mono ?_; rintro e w1 ⟨rfl, rfl⟩
  go_wp2_with fail
  refine (unmix_c _ _ t).mono ?_; rintro e w1 ⟨rfl, n1, rfl⟩
  go_wp2_with fail
  refine (refUnmix_c _ _).mono ?_; rintro e w1 ⟨rfl, rfl⟩
  go_wp2_with fail
  refine (mix_c _ _ (tabs_drewN t _)).mono ?_; rintro e w1 ⟨rfl, rfl⟩
  go_wp2_with fail
  refine (unmix_c _ _ (tabs_drewN t _)).mono ?_; rintro e w1 ⟨rfl, n2, rfl⟩
  go_wp2_with fail
  refine (unmix_c _ _ (tabs_drewN t _)).mono ?_; rintro e w1 ⟨rfl, n3, rfl⟩
  go_wp2_with fail
  refine (mix_c _ _ (tabs_drewN t _)).mono ?_; rintro e w1 ⟨rfl, rfl⟩
  go_wp2_with fail
  refine (live_c _ (tabs_drewN t _)).mono ?_; rintro e w1 ⟨rfl, hb⟩
  go_wp2
  go_ret
  exact ⟨rfl, below_trans (below_drewN' _ _) hb⟩
end Go.Proofs.YtbhnlodfpepbpaaDoor
