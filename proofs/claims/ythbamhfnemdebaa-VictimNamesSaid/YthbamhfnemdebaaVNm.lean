/-
  The walk of VictimNames. No condition.
-/
import Derived.Test.YthbamhfnemdebaaVLv
import Derived.Test.YthbamhfnemdebaaOpen
namespace Go.Proofs.Ythbamhfnemdebaa
open Go.RowKit
abbrev nmA : List Ag := [⟨3, 9⟩, ⟨3, 1⟩, ⟨4, 9⟩]
theorem nm_v1 : vic nmA [⟨1, 2⟩] = [] := by
  refine vic_no _ _ ?_
  unfold cyc nxL
  rw [sdE_self [⟨1, 2⟩] (by simp)]
  rfl
theorem nm_c2 : cyc [⟨1, 1⟩, ⟨2, 3⟩, ⟨3, 2⟩] = ([1], true) := by
  unfold cyc nxL
  rw [sdE_self [⟨1, 1⟩, ⟨2, 3⟩, ⟨3, 2⟩] (by simp [ltE])]
  rfl
theorem nm_c3 : cyc [⟨2, 3⟩, ⟨3, 2⟩] = ([2, 3], true) := by
  unfold cyc nxL
  rw [sdE_self [⟨2, 3⟩, ⟨3, 2⟩] (by simp [ltE])]
  rfl
theorem nm_v2 : vic nmA [⟨1, 1⟩, ⟨2, 3⟩, ⟨3, 2⟩] = [1, 3] := by
  rw [vic_yes _ _ (by rw [nm_c2])]
  have h : vc nmA [⟨1, 1⟩, ⟨2, 3⟩, ⟨3, 2⟩] = 1 := by
    unfold vc
    rw [nm_c2]
    rfl
  rw [h, show keepL (onE 1) [⟨1, 1⟩, ⟨2, 3⟩, ⟨3, 2⟩] = [⟨2, 3⟩, ⟨3, 2⟩] from rfl, vic_yes _ _ (by rw [nm_c3])]
  have h2 : vc nmA [⟨2, 3⟩, ⟨3, 2⟩] = 3 := by
    unfold vc
    rw [nm_c3]
    rfl
  rw [h2, show keepL (onE 3) [⟨2, 3⟩, ⟨3, 2⟩] = [] from rfl, vic_no nmA [] (by rw [cyc_nil])]
theorem vic_nil (A : List Ag) : vic A [] = [] := vic_no A [] (by rw [cyc_nil])
theorem sd_nil : sdE [] = [] := sdE_self [] (by simp)
set_option maxHeartbeats 4000000 in
set_option maxRecDepth 10000 in
theorem edges_nil (w : World) : Calls Try.prog 27 #[.slice none 0 0] w fun e w' => ∃ a c, e = .returned (.slice a 0 c) ∧ Sep w' [vec 29 2 (.slice a 0 c) 0 [], old w] := by
  have HS := Lib.hid (fun W => sorted_any (.slice none 0 0) [] W (RL.nil W 2) (by simp))
  simp only [sd_nil] at HS
  have hV := Lib.hid (Sep.start w)
  go_enter Try.func27, Try.ntmps27
  go_wp2_with fail
  go_loopg [3, 12] 0 (fun gm s3 s12 W => gm = 0 ∧ s3 = .slice none 0 0 ∧ s12 = .int .i64 0 ∧ Hid (Sep W [old w]))
  case atStart => exact ⟨rfl, rfl, rfl, hV⟩
  case round =>
    clear hV
    obtain ⟨_, rfl, rfl, hV⟩ := hrel
    go_wp2_with fail
    refine (HS.out _).mono ?_
    rintro e w1 ⟨a, c, rfl, q⟩
    simp only [List.length_nil, List.flatMap_nil] at q ⊢
    replace q := Lib.hid (q.graft hV.out)
    clear HS
    go_wp2_with fail
    go_ret
    exact ⟨a, c, rfl, q.out⟩
set_option maxHeartbeats 4000000 in
theorem of_nil (w : World) : Calls Try.prog 18 #[.slice none 0 0, .slice none 0 0] w fun e w' => ∃ a c, e = .returned (.slice a 0 c) ∧ Sep w' [vec 3 1 (.slice a 0 c) 0 [], old w] := by
  go_enter Try.func18, Try.ntmps18
  go_wp2_with fail
  refine (edges_nil w).mono ?_
  rintro e w1 ⟨a, c, rfl, q⟩
  have HV := Lib.hid (victims_any (.slice a 0 c) (.slice none 0 0) [] [] w1 q.vec_rl (by simp) (RL.nil w1 2) (by simp))
  rw [vic_nil] at HV
  replace q := Lib.hid q
  go_wp2_with fail
  refine HV.out.mono ?_
  rintro e w2 ⟨va, vp, rfl, q2⟩
  simp only [List.length_nil, List.map_nil] at q2 ⊢
  replace q2 := Lib.hid ((q2.graft q.out).drop1)
  clear q HV
  go_wp2_with fail
  go_ret
  exact ⟨va, vp, rfl, q2.out⟩
set_option maxHeartbeats 8000000 in
set_option maxRecDepth 100000 in
theorem names_walk (w : World) : Calls Try.prog 6 #[] w fun e w' => e = .returned (.bool true) ∧ Below w.heap.size w w' := by
  go_enter Try.func6, Try.ntmps6
  go_wp2_with fail
  refine (lives_any _).mono ?_
  rintro e w1 ⟨rfl, q⟩
  have hV := Lib.hid ((((Sep.start w).below q).alloc #[.int .i64 3, .int .i64 9, .int .i64 3, .int .i64 1, .int .i64 4, .int .i64 9] 43).alloc #[.int .i64 3, .int .i64 4, .int .i64 5] 3)
  have hag := Lib.hid (fun W (h : Below w1.heap.size w1 W) => h)
  simp only [World.size_alloc] at hV
  clear q
  have HC1 := Lib.hid (choose_any _ _ [3, 4, 5] nmA _ (int_ri [3, 4, 5] hV.out rfl rfl (by simp)) (by simp) (ag_rl nmA hV.out.to1 rfl rfl (by simp)) (by simp))
  rw [show chL nmA [3, 4, 5] = 4 from rfl, show decide (0 < ([3, 4, 5] : List Int).length) = true from rfl] at HC1
  go_wp2_with fail
  generalize w1.heap.size = sa at *
  refine HC1.out.mono ?_
  rintro e w2 ⟨rfl, q⟩
  replace hV := Lib.hid (hV.out.below q).tail
  clear q HC1 hag
  have HC2 := Lib.hid (choose_any (.slice none 0 0) (.slice (some ⟨sa, 0, none⟩) 3 3) [] nmA w2 ⟨none, 0, rfl, fun h => by simp at h⟩ (by simp) (ag_rl nmA hV.out rfl rfl (by simp)) (by simp))
  rw [show chL nmA [] = 0 from rfl, show decide (0 < ([] : List Int).length) = false from rfl] at HC2
  go_wp2_with fail
  refine HC2.out.mono ?_
  rintro e w3 ⟨rfl, q⟩
  replace hV := Lib.hid ((hV.out.below q).alloc #[.int .i64 7, .int .i64 6] 3)
  clear q HC2
  have HC3 := Lib.hid (choose_any _ (.slice (some ⟨sa, 0, none⟩) 3 3) [7, 6] nmA _ (int_ri [7, 6] hV.out rfl rfl (by simp)) (by simp) (ag_rl nmA hV.out.to1 rfl rfl (by simp)) (by simp))
  rw [show chL nmA [7, 6] = 7 from rfl, show decide (0 < ([7, 6] : List Int).length) = true from rfl] at HC3
  go_wp2_with fail
  refine HC3.out.mono ?_
  rintro e w4 ⟨rfl, q⟩
  replace hV := Lib.hid (hV.out.below q).tail
  clear q HC3
  have HA1 := Lib.hid (fun W rs (h : Sep W (blk sa 43 #[.int .i64 3, .int .i64 9, .int .i64 3, .int .i64 1, .int .i64 4, .int .i64 9] :: rs)) => age_any (.slice (some ⟨sa, 0, none⟩) 3 3) nmA 3 W (ag_rl nmA h rfl rfl (by simp)) (by simp))
  have HA2 := Lib.hid (fun W rs (h : Sep W (blk sa 43 #[.int .i64 3, .int .i64 9, .int .i64 3, .int .i64 1, .int .i64 4, .int .i64 9] :: rs)) => age_any (.slice (some ⟨sa, 0, none⟩) 3 3) nmA 8 W (ag_rl nmA h rfl rfl (by simp)) (by simp))
  simp only [show ageL nmA 3 = 9 from rfl] at HA1
  simp only [show ageL nmA 8 = 0 from rfl] at HA2
  go_wp2_with fail
  refine (HA1.out _ _ hV.out).mono ?_
  rintro e w5 ⟨rfl, q⟩
  replace hV := Lib.hid (hV.out.below q)
  clear q HA1
  go_wp2_with fail
  refine (HA2.out _ _ hV.out).mono ?_
  rintro e w6 ⟨rfl, q⟩
  replace hV := Lib.hid ((hV.out.below q).alloc #[.int .i64 1, .int .i64 2] 29)
  clear q HA2
  have HV1 := Lib.hid (victims_any _ (.slice (some ⟨sa, 0, none⟩) 3 3) [⟨1, 2⟩] nmA _ (ed_rl [⟨1, 2⟩] hV.out rfl rfl (by simp)) (by simp) (ag_rl nmA hV.out.to1 rfl rfl (by simp)) (by simp))
  rw [nm_v1] at HV1
  go_wp2_with fail
  refine HV1.out.mono ?_
  rintro e w7 ⟨va, vp, rfl, q⟩
  replace hV := Lib.hid (((q.graft hV.out).tail.tail).alloc #[.int .i64 1, .int .i64 1, .int .i64 2, .int .i64 3, .int .i64 3, .int .i64 2] 29)
  simp only [List.length_nil]
  clear q HV1
  have HV2 := Lib.hid (victims_any _ (.slice (some ⟨sa, 0, none⟩) 3 3) [⟨1, 1⟩, ⟨2, 3⟩, ⟨3, 2⟩] nmA _ (ed_rl [⟨1, 1⟩, ⟨2, 3⟩, ⟨3, 2⟩] hV.out rfl rfl (by simp)) (by simp) (ag_rl nmA hV.out.to1 rfl rfl (by simp)) (by simp))
  rw [nm_v2] at HV2
  go_wp2_with fail
  refine HV2.out.mono ?_
  rintro e w8 ⟨vb, vq, rfl, q⟩
  simp only [List.length_cons, List.length_nil] at q ⊢
  replace hV := Lib.hid ((q.graft hV.out).alloc #[.int .i64 1, .int .i64 3] 3)
  clear q HV2
  go_wp2_with fail
  refine (same_true _ _ [1, 3] _ (by simp) hV.out.to1.vec_ri (int_ri [1, 3] hV.out rfl rfl (by simp))).mono ?_
  rintro e w9 ⟨rfl, m, hw⟩
  replace hV := Lib.hid (show Sep w9 _ by rw [hw]; exact hV.out.drewN m)
  clear hw
  go_wp2_with fail
  refine (of_nil _).mono ?_
  rintro e w10 ⟨oa, oc, rfl, q⟩
  replace hV := Lib.hid (q.graft hV.out)
  clear q
  go_wp2_with fail
  go_ret
  exact ⟨rfl, (hV.out.bring 5 rfl).gold⟩
end Go.Proofs.Ythbamhfnemdebaa
