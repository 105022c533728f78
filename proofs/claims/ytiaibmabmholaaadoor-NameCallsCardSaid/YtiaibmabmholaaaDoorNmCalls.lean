/-
  The walk of NameCalls. Condition: RdW (the variables that Read's callees look at).
-/
import Derived.Test.YtiaibmabmholaaaDoorNmW
import Derived.Test.YtiaibmabmholaaaDoorRf02E
import Derived.Test.YtiaibmabmholaaaDoorHlN
namespace Go.Proofs.YtiaibmabmholaaaDoor
open Go.RowKit
theorem ReadV.uniq {s : ByteArray} {t r c t' r' c' : Int} (h : ReadV s t r c) (k : ReadV s t' r' c') : t' = t ∧ r' = r ∧ c' = c := by
  rcases h with ⟨g1, g2, rfl, rfl, rfl⟩ | ⟨g1, rfl, rfl, rfl⟩ <;> rcases k with ⟨k1, k2, rfl, rfl, rfl⟩ | ⟨k1, rfl, rfl, rfl⟩
  · exact ⟨rfl, rfl, rfl⟩
  · rcases k1 with k | k
    · exact absurd k g1
    · exact absurd g2 k
  · rcases g1 with k | k
    · exact absurd k k1
    · exact absurd k2 k
  · exact ⟨rfl, rfl, rfl⟩
theorem AncK.uniq {t r : Int} {k k' : Nat} (h : AncK t r k) (h' : AncK t r k') : k' = k := by
  unfold AncK at h h'
  rw [← h] at h'
  omega
theorem checkR_w (t r n : Int) (h : n = if lv t r = -1 then 2 else 0) (w : World) : Calls Tryd.prog 29 #[(.agg #[.int .i64 t, .int .i64 r])] w fun e w' => e = .returned (.int .i64 n) ∧ Below w.heap.size w w' := by
  subst h
  exact checkR_any t r w
theorem underR_w (t r t' r' : Int) (x : Bool) (h : undB t r t' r' = x) (w : World) : Calls Tryd.prog 32 #[(.agg #[.int .i64 t, .int .i64 r]), (.agg #[.int .i64 t', .int .i64 r'])] w fun e w' => e = .returned (.bool x) ∧ Below w.heap.size w w' := by
  subst h
  exact underR_any t r t' r' w
theorem compareR_w (t r t' r' n : Int) (h : cmpN t r t' r' = n) (w : World) : Calls Tryd.prog 33 #[(.agg #[.int .i64 t, .int .i64 r]), (.agg #[.int .i64 t', .int .i64 r'])] w fun e w' => e = .returned (.int .i64 n) ∧ Below w.heap.size w w' := by
  subst h
  exact compareR_any t r t' r' w
set_option maxHeartbeats 8000000 in
set_option maxRecDepth 100000 in
theorem calls_walk (a a' b b' t r : Int) (s : ByteArray) (w : World) (hR : RdW w) (h9 : 9 < w.heap.size) : Calls Tryd.prog 8 #[(.agg #[.int .i64 a, .int .i64 a']), (.agg #[.int .i64 b, .int .i64 b']), .int .i64 t, .int .i64 r, .string s] w fun e w' => e = .returned (.bool true) ∧ Below w.heap.size w w' := by
  replace hR := Lib.hid hR
  have hS := Lib.hid (box2 w a a' b b')
  by_cases h60 : s.size ≤ 60
  · have h6 : (s.size : Int) ≤ 60 := by omega
    obtain ⟨n, hn⟩ : ∃ n : Int, Hid (n = if lv a a' = -1 then 2 else 0) := ⟨_, rfl⟩
    obtain ⟨x, hx⟩ : ∃ x : Int, Hid (lv a a' = x) := ⟨_, rfl⟩
    obtain ⟨u, hu⟩ : ∃ u : Bool, Hid (undB a a' b b' = u) := ⟨_, rfl⟩
    obtain ⟨z, hz⟩ : ∃ z : Int, Hid (cmpN a a' b b' = z) := ⟨_, rfl⟩
    obtain ⟨T, hT⟩ : ∃ T : ByteArray, Hid (txt a a' = T) := ⟨_, rfl⟩
    have K1 := Lib.hid (check_w a a' n hn.out)
    have K2 := Lib.hid (checkR_w a a' n hn.out)
    have L1 := Lib.hid (level_w a a' x hx.out)
    have L2 := Lib.hid (levelR_w a a' x hx.out)
    have U1 := Lib.hid (under_w a a' b b' u hu.out)
    have U2 := Lib.hid (underR_w a a' b b' u hu.out)
    have M1 := Lib.hid (compare_w a a' b b' z hz.out)
    have M2 := Lib.hid (compareR_w a a' b b' z hz.out)
    have T1 := Lib.hid (text_w a a' T hT.out)
    have T2 := Lib.hid (textR_w a a' T hT.out)
    have hq := fun a b c d => run_eql_nm a b c d
    go_enter Tryd.func8, Tryd.ntmps8
    go_wp2_with fail
    refine (lives_any _).mono ?_
    rintro e w0 ⟨rfl, q⟩
    replace hS := Lib.hid (hS.out.below q)
    clear q
    go_wp2_with fail
    refine (table_any t _).mono ?_
    rintro e w1 ⟨a1, a2, a3, rfl, hv, q⟩
    replace hS := Lib.hid ((hS.out.below q).alloc #[Value.int .i64 (a1), Value.int .i64 (a2)] 23)
    replace hv := Lib.hid hv
    clear q
    go_wp2_with fail
    refine (tableR_w t a1 a2 a3 hv.out _).mono ?_
    rintro e w2 ⟨rfl, q⟩
    replace hS := Lib.hid ((hS.out.below q).alloc #[Value.int .i64 (a1), Value.int .i64 (a2)] 23)
    clear q hv
    go_wp2_with fail
    refine (record_any t r _).mono ?_
    rintro e w3 ⟨b1, b2, b3, rfl, hv, q⟩
    replace hS := Lib.hid ((hS.out.below q).alloc #[Value.int .i64 (b1), Value.int .i64 (b2)] 23)
    replace hv := Lib.hid hv
    clear q
    go_wp2_with fail
    refine (recordR_w t r b1 b2 b3 hv.out _).mono ?_
    rintro e w4 ⟨rfl, q⟩
    replace hS := Lib.hid ((hS.out.below q).alloc #[Value.int .i64 (b1), Value.int .i64 (b2)] 23)
    clear q hv
    obtain ⟨_, n0, n1, _⟩ := hS.out.tail.tail.tail.tail.tail.b2
    go_wp2_with fail
    refine (parent_any a a' _).mono ?_
    rintro e w5 ⟨c1, c2, c3, rfl, hv, q⟩
    replace hS := Lib.hid ((hS.out.below q).alloc #[Value.int .i64 (c1), Value.int .i64 (c2)] 23)
    replace hv := Lib.hid hv
    clear q n0 n1
    obtain ⟨_, n0, n1, _⟩ := hS.out.tail.tail.tail.tail.tail.tail.b2
    go_wp2_with fail
    refine (parentR_w a a' c1 c2 c3 hv.out _).mono ?_
    rintro e w6 ⟨rfl, q⟩
    replace hS := Lib.hid ((hS.out.below q).alloc #[Value.int .i64 (c1), Value.int .i64 (c2)] 23)
    clear q hv n0 n1
    go_wp2_with fail
    refine (read_any s (by omega) _ (hR.out.later (hS.out.tail.tail.tail.tail.tail.tail.tail.tail.gold) h9) (Nat.lt_of_lt_of_le h9 (hS.out.tail.tail.tail.tail.tail.tail.tail.tail.gold).size)).mono ?_
    rintro e w7 ⟨d1, d2, d3, rfl, hv, q⟩
    replace hS := Lib.hid ((hS.out.below q).alloc #[Value.int .i64 (d1), Value.int .i64 (d2)] 23)
    replace hv := Lib.hid hv
    clear q
    go_wp2_with fail
    refine (readR_any s h60 _).mono ?_
    rintro e w8 ⟨d4, d5, d6, rfl, hv2, q⟩
    obtain ⟨rfl, rfl, rfl⟩ := ReadV.uniq hv.out hv2
    replace hS := Lib.hid ((hS.out.below q).alloc #[Value.int .i64 (d4), Value.int .i64 (d5)] 23)
    clear q hv hv2
    have s1 := nmB_self a1 a2
    have s2 := nmB_self b1 b2
    have s3 := nmB_self c1 c2
    have s4 := nmB_self d4 d5
    have s5 := nmB_self (-1) (-1)
    have hB := hS
    clear hS hR h9 h60 hn hx hu hz hT
    go_wp2_with fail
    have hS := Lib.hid (show (fun W : World => Sep W [blk w8.heap.size 23 #[Value.int .i64 (d4), Value.int .i64 (d5)], blk w7.heap.size 23 #[Value.int .i64 (d4), Value.int .i64 (d5)], blk w6.heap.size 23 #[Value.int .i64 (c1), Value.int .i64 (c2)], blk w5.heap.size 23 #[Value.int .i64 (c1), Value.int .i64 (c2)], blk w4.heap.size 23 #[Value.int .i64 (b1), Value.int .i64 (b2)], blk w3.heap.size 23 #[Value.int .i64 (b1), Value.int .i64 (b2)], blk w2.heap.size 23 #[Value.int .i64 (a1), Value.int .i64 (a2)], blk w1.heap.size 23 #[Value.int .i64 (a1), Value.int .i64 (a2)], blk (w.heap.size + 1) 23 #[Value.int .i64 (b), Value.int .i64 (b')], blk w.heap.size 23 #[Value.int .i64 (a), Value.int .i64 (a')], old w]) _ from hB.out.drew)
    try dsimp only [List.append]
    refine hl_begin_n (fun W : World => Sep W [blk w8.heap.size 23 #[Value.int .i64 (d4), Value.int .i64 (d5)], blk w7.heap.size 23 #[Value.int .i64 (d4), Value.int .i64 (d5)], blk w6.heap.size 23 #[Value.int .i64 (c1), Value.int .i64 (c2)], blk w5.heap.size 23 #[Value.int .i64 (c1), Value.int .i64 (c2)], blk w4.heap.size 23 #[Value.int .i64 (b1), Value.int .i64 (b2)], blk w3.heap.size 23 #[Value.int .i64 (b1), Value.int .i64 (b2)], blk w2.heap.size 23 #[Value.int .i64 (a1), Value.int .i64 (a2)], blk w1.heap.size 23 #[Value.int .i64 (a1), Value.int .i64 (a2)], blk (w.heap.size + 1) 23 #[Value.int .i64 (b), Value.int .i64 (b')], blk w.heap.size 23 #[Value.int .i64 (a), Value.int .i64 (a')], old w]) ((0, true) :: (1, true) :: (2, true) :: (3, true) :: (4, true) :: (5, true) :: (6, true) :: (7, true) :: (8, true) :: (9, true) :: (10, true) :: (11, true) :: (12, true) :: (13, true) :: (14, true) :: (15, true) :: (16, true) :: (17, true) :: (18, true) :: (19, true) :: (20, true) :: (21, true) :: (22, true) :: (23, true) :: (24, true) :: (25, true) :: (26, true) :: (27, true) :: (28, true) :: (29, true) :: (30, true) :: (31, true) :: (32, true) :: (33, true) :: (34, true) :: (35, true) :: (36, true) :: (37, true) :: (38, true) :: (39, true) :: (41, true) :: (40, false) :: (42, false) :: (43, true) :: (44, true) :: (45, true) :: (46, true) :: (48, true) :: (47, false) :: (49, false) :: (50, true) :: (51, true) :: (52, true) :: (53, true) :: (55, true) :: (54, false) :: (56, false) :: (57, false) :: (58, true) :: (59, true) :: (60, true) :: (61, true) :: (63, true) :: (64, true) :: (62, false) :: (65, false) :: (66, true) :: (67, true) :: (68, true) :: (69, true) :: (70, true) :: (72, true) :: (73, true) :: (71, false) :: (74, false) :: (75, true) :: (76, true) :: (77, true) :: (78, true) :: (80, true) :: (79, false) :: (81, false) :: (82, true) :: (83, true) :: (84, true) :: (85, false) :: (86, false) :: (87, true) :: (88, true) :: (89, true) :: []) (([], [11], 75) :: ([], [13], 76) :: ([0, 1], [74, 75], 77) :: ([2], [76], 78) :: ([3], [12, 77], 79) :: ([3], [14, 77], 80) :: ([4, 5, 3], [78, 79, 77], 81) :: ([3, 6], [77, 80], 82) :: ([7, 3], [81], 83) :: ([8], [15, 82], 84) :: ([8], [17, 82], 85) :: ([9, 10, 8], [83, 84, 82], 86) :: ([8, 11], [82, 85], 87) :: ([12, 8], [86], 88) :: ([13], [16, 87], 89) :: ([13], [18, 87], 90) :: ([14, 15, 13], [88, 89, 87], 91) :: ([13, 16], [87, 90], 92) :: ([17, 13], [91], 93) :: ([18], [19, 92], 94) :: ([18], [21, 92], 95) :: ([19, 20, 18], [93, 94, 92], 96) :: ([18, 21], [92, 95], 97) :: ([22, 18], [96], 98) :: ([23], [20, 97], 99) :: ([23], [22, 97], 100) :: ([24, 25, 23], [98, 99, 97], 101) :: ([23, 26], [97, 100], 102) :: ([27, 23], [101], 103) :: ([28], [23, 102], 104) :: ([28], [25, 102], 105) :: ([29, 30, 28], [103, 104, 102], 106) :: ([28, 31], [102, 105], 107) :: ([32, 28], [106], 108) :: ([33], [24, 107], 109) :: ([33], [26, 107], 110) :: ([34, 35, 33], [108, 109, 107], 111) :: ([33, 36], [107, 110], 112) :: ([37, 33], [111], 113) :: ([38], [5, 112], 114) :: ([39, 38, 38], [113, 112], 115) :: ([38], [5, 112], 116) :: ([41, 40, 38], [115, 112], 117) :: ([40, 42, 38], [114, 116, 112], 118) :: ([38, 43], [112, 117], 119) :: ([44, 42], [118], 120) :: ([45], [5, 119], 121) :: ([46, 45, 45], [120, 119], 122) :: ([45], [5, 119], 123) :: ([48, 47, 45], [122, 119], 124) :: ([47, 49, 45], [121, 123, 119], 125) :: ([45, 50], [119, 124], 126) :: ([51, 49], [125], 127) :: ([52], [5, 126], 128) :: ([53, 52, 52], [127, 126], 129) :: ([52], [5, 126], 130) :: ([55, 54, 52], [129, 126], 131) :: ([54, 56, 56, 52], [128, 130, 126], 132) :: ([52, 57], [126, 131], 133) :: ([58, 57], [132], 134) :: ([59], [5, 133], 135) :: ([59], [6, 133], 136) :: ([60, 61, 59, 59], [134, 135, 133], 137) :: ([59], [5, 133], 138) :: ([59], [6, 133], 139) :: ([63, 64, 62, 59], [137, 138, 133], 140) :: ([62, 65, 59], [136, 139, 133], 141) :: ([59, 66], [133, 140], 142) :: ([67, 65], [141], 143) :: ([68], [5, 142], 144) :: ([68], [6, 142], 145) :: ([69, 70, 68, 68], [143, 144, 142], 146) :: ([68], [5, 142], 147) :: ([68], [6, 142], 148) :: ([72, 73, 71, 68], [146, 147, 142], 149) :: ([71, 74, 68], [145, 148, 142], 150) :: ([68, 75], [142, 149], 151) :: ([76, 74], [150], 152) :: ([77], [5, 151], 153) :: ([78, 77, 77], [152, 151], 154) :: ([77], [5, 151], 155) :: ([80, 79, 77], [154, 151], 156) :: ([79, 81, 77], [153, 155, 151], 157) :: ([77, 82], [151, 156], 158) :: ([83, 81], [157], 159) :: ([84, 84], [158], 160) :: ([85, 84], [158], 161) :: ([85, 86, 84], [159, 160, 158], 162) :: ([84, 87], [158, 161], 163) :: ([88, 86, 0, 1, 2, 3, 4, 5, 6, 7, 8, 9, 10, 11, 12, 13, 14, 15, 16, 17, 18, 19, 20, 21, 22, 23, 24, 25, 26, 27, 28, 29, 30, 31, 32, 33, 34, 35, 36, 37, 38, 39, 40, 41, 42, 43, 44, 45, 46, 47, 48, 49, 50, 51, 52, 53, 54, 55, 56, 57, 58, 59, 60, 61, 62, 63, 64, 65, 66, 67, 68, 69, 70, 71, 72, 73, 74, 75, 76, 77, 78, 79, 80, 81, 82, 83, 84, 85, 86, 87, 88], [162], 11) :: []) (by kernel_rfl) (by kernel_rfl) (by kernel_rfl) (by kernel_rfl) rfl (fun _ _ _ _ _ h => h) hS.out ?_
    change HL _ _ _ _ _ _ (World.drew _)
    generalize World.drew _ = wd at *
    refine hl_take ?v1 rfl (by kernel_rfl) ?y1 ?z1
    case y1 => intro W hW; change Sep W _ at hW; have d0 := hW.tail.tail.tail.tail.tail.tail.tail.b2.2.1; have d1 := hW.tail.tail.tail.tail.tail.tail.tail.b2.2.2.1; replace hW := Lib.hid hW; go_simp; try rfl
    case z1 =>
    simp only [Act.put, List.setIfInBounds_toArray, List.set_cons_succ, List.set_cons_zero, List.getElem_toArray, List.getElem_cons_zero, List.getElem_cons_succ]
    refine hl_take ?v2 rfl (by kernel_rfl) ?y2 ?z2
    case y2 => intro W hW; change Sep W _ at hW; have d0 := hW.tail.tail.tail.tail.tail.tail.b2.2.1; have d1 := hW.tail.tail.tail.tail.tail.tail.b2.2.2.1; replace hW := Lib.hid hW; go_simp; try rfl
    case z2 =>
    simp only [Act.put, List.setIfInBounds_toArray, List.set_cons_succ, List.set_cons_zero, List.getElem_toArray, List.getElem_cons_zero, List.getElem_cons_succ]
    refine hl_take ?v3 rfl (by kernel_rfl) ?y3 ?z3
    case y3 => intro W hW; skip; replace hW := Lib.hid hW; go_simp; try rfl
    case z3 =>
    simp only [Act.put, List.setIfInBounds_toArray, List.set_cons_succ, List.set_cons_zero, List.getElem_toArray, List.getElem_cons_zero, List.getElem_cons_succ]
    refine hl_take ?v4 rfl (by kernel_rfl) ?y4 ?z4
    case y4 => intro W hW; skip; replace hW := Lib.hid hW; go_simp; try rfl
    case z4 =>
    simp only [Act.put, List.setIfInBounds_toArray, List.set_cons_succ, List.set_cons_zero, List.getElem_toArray, List.getElem_cons_zero, List.getElem_cons_succ]
    refine hl_take ?v5 rfl (by kernel_rfl) ?y5 ?z5
    case y5 => intro W hW; skip; replace hW := Lib.hid hW; go_simp; try rfl
    case z5 =>
    simp only [Act.put, List.setIfInBounds_toArray, List.set_cons_succ, List.set_cons_zero, List.getElem_toArray, List.getElem_cons_zero, List.getElem_cons_succ]
    refine hl_take ?v6 rfl (by kernel_rfl) ?y6 ?z6
    case y6 => intro W hW; skip; replace hW := Lib.hid hW; go_simp; try rfl
    case z6 =>
    simp only [Act.put, List.setIfInBounds_toArray, List.set_cons_succ, List.set_cons_zero, List.getElem_toArray, List.getElem_cons_zero, List.getElem_cons_succ]
    refine hl_take ?v7 rfl (by kernel_rfl) ?y7 ?z7
    case y7 => intro W hW; skip; replace hW := Lib.hid hW; go_simp; try rfl
    case z7 =>
    simp only [Act.put, List.setIfInBounds_toArray, List.set_cons_succ, List.set_cons_zero, List.getElem_toArray, List.getElem_cons_zero, List.getElem_cons_succ]
    refine hl_take ?v8 rfl (by kernel_rfl) ?y8 ?z8
    case y8 => intro W hW; skip; replace hW := Lib.hid hW; go_simp; try rfl
    case z8 =>
    simp only [Act.put, List.setIfInBounds_toArray, List.set_cons_succ, List.set_cons_zero, List.getElem_toArray, List.getElem_cons_zero, List.getElem_cons_succ]
    refine hl_take ?v9 rfl (by kernel_rfl) ?y9 ?z9
    case y9 => intro W hW; skip; replace hW := Lib.hid hW; go_simp; try rfl
    case z9 =>
    simp only [Act.put, List.setIfInBounds_toArray, List.set_cons_succ, List.set_cons_zero, List.getElem_toArray, List.getElem_cons_zero, List.getElem_cons_succ]
    refine hl_take ?v10 rfl (by kernel_rfl) ?y10 ?z10
    case y10 => intro W hW; change Sep W _ at hW; have d0 := hW.tail.tail.tail.tail.tail.b2.2.1; have d1 := hW.tail.tail.tail.tail.tail.b2.2.2.1; replace hW := Lib.hid hW; go_simp; try rfl
    case z10 =>
    simp only [Act.put, List.setIfInBounds_toArray, List.set_cons_succ, List.set_cons_zero, List.getElem_toArray, List.getElem_cons_zero, List.getElem_cons_succ]
    refine hl_take ?v11 rfl (by kernel_rfl) ?y11 ?z11
    case y11 => intro W hW; change Sep W _ at hW; have d0 := hW.tail.tail.tail.tail.b2.2.1; have d1 := hW.tail.tail.tail.tail.b2.2.2.1; replace hW := Lib.hid hW; go_simp; try rfl
    case z11 =>
    simp only [Act.put, List.setIfInBounds_toArray, List.set_cons_succ, List.set_cons_zero, List.getElem_toArray, List.getElem_cons_zero, List.getElem_cons_succ]
    refine hl_take ?v12 rfl (by kernel_rfl) ?y12 ?z12
    case y12 => intro W hW; skip; replace hW := Lib.hid hW; go_simp; try rfl
    case z12 =>
    simp only [Act.put, List.setIfInBounds_toArray, List.set_cons_succ, List.set_cons_zero, List.getElem_toArray, List.getElem_cons_zero, List.getElem_cons_succ]
    refine hl_take ?v13 rfl (by kernel_rfl) ?y13 ?z13
    case y13 => intro W hW; skip; replace hW := Lib.hid hW; go_simp; try rfl
    case z13 =>
    simp only [Act.put, List.setIfInBounds_toArray, List.set_cons_succ, List.set_cons_zero, List.getElem_toArray, List.getElem_cons_zero, List.getElem_cons_succ]
    refine hl_take ?v14 rfl (by kernel_rfl) ?y14 ?z14
    case y14 => intro W hW; skip; replace hW := Lib.hid hW; go_simp; try rfl
    case z14 =>
    simp only [Act.put, List.setIfInBounds_toArray, List.set_cons_succ, List.set_cons_zero, List.getElem_toArray, List.getElem_cons_zero, List.getElem_cons_succ]
    refine hl_take ?v15 rfl (by kernel_rfl) ?y15 ?z15
    case y15 => intro W hW; skip; replace hW := Lib.hid hW; go_simp; try rfl
    case z15 =>
    simp only [Act.put, List.setIfInBounds_toArray, List.set_cons_succ, List.set_cons_zero, List.getElem_toArray, List.getElem_cons_zero, List.getElem_cons_succ]
    refine hl_take ?v16 rfl (by kernel_rfl) ?y16 ?z16
    case y16 => intro W hW; skip; replace hW := Lib.hid hW; go_simp; try rfl
    case z16 =>
    simp only [Act.put, List.setIfInBounds_toArray, List.set_cons_succ, List.set_cons_zero, List.getElem_toArray, List.getElem_cons_zero, List.getElem_cons_succ]
    refine hl_take ?v17 rfl (by kernel_rfl) ?y17 ?z17
    case y17 => intro W hW; skip; replace hW := Lib.hid hW; go_simp; try rfl
    case z17 =>
    simp only [Act.put, List.setIfInBounds_toArray, List.set_cons_succ, List.set_cons_zero, List.getElem_toArray, List.getElem_cons_zero, List.getElem_cons_succ]
    refine hl_take ?v18 rfl (by kernel_rfl) ?y18 ?z18
    case y18 => intro W hW; skip; replace hW := Lib.hid hW; go_simp; try rfl
    case z18 =>
    simp only [Act.put, List.setIfInBounds_toArray, List.set_cons_succ, List.set_cons_zero, List.getElem_toArray, List.getElem_cons_zero, List.getElem_cons_succ]
    refine hl_take ?v19 rfl (by kernel_rfl) ?y19 ?z19
    case y19 => intro W hW; skip; replace hW := Lib.hid hW; go_simp; try rfl
    case z19 =>
    simp only [Act.put, List.setIfInBounds_toArray, List.set_cons_succ, List.set_cons_zero, List.getElem_toArray, List.getElem_cons_zero, List.getElem_cons_succ]
    refine hl_take ?v20 rfl (by kernel_rfl) ?y20 ?z20
    case y20 => intro W hW; change Sep W _ at hW; have d0 := hW.tail.tail.tail.b2.2.1; have d1 := hW.tail.tail.tail.b2.2.2.1; replace hW := Lib.hid hW; go_simp; try rfl
    case z20 =>
    simp only [Act.put, List.setIfInBounds_toArray, List.set_cons_succ, List.set_cons_zero, List.getElem_toArray, List.getElem_cons_zero, List.getElem_cons_succ]
    refine hl_take ?v21 rfl (by kernel_rfl) ?y21 ?z21
    case y21 => intro W hW; change Sep W _ at hW; have d0 := hW.tail.tail.b2.2.1; have d1 := hW.tail.tail.b2.2.2.1; replace hW := Lib.hid hW; go_simp; try rfl
    case z21 =>
    simp only [Act.put, List.setIfInBounds_toArray, List.set_cons_succ, List.set_cons_zero, List.getElem_toArray, List.getElem_cons_zero, List.getElem_cons_succ]
    refine hl_take ?v22 rfl (by kernel_rfl) ?y22 ?z22
    case y22 => intro W hW; skip; replace hW := Lib.hid hW; go_simp; try rfl
    case z22 =>
    simp only [Act.put, List.setIfInBounds_toArray, List.set_cons_succ, List.set_cons_zero, List.getElem_toArray, List.getElem_cons_zero, List.getElem_cons_succ]
    refine hl_take ?v23 rfl (by kernel_rfl) ?y23 ?z23
    case y23 => intro W hW; skip; replace hW := Lib.hid hW; go_simp; try rfl
    case z23 =>
    simp only [Act.put, List.setIfInBounds_toArray, List.set_cons_succ, List.set_cons_zero, List.getElem_toArray, List.getElem_cons_zero, List.getElem_cons_succ]
    refine hl_take ?v24 rfl (by kernel_rfl) ?y24 ?z24
    case y24 => intro W hW; skip; replace hW := Lib.hid hW; go_simp; try rfl
    case z24 =>
    simp only [Act.put, List.setIfInBounds_toArray, List.set_cons_succ, List.set_cons_zero, List.getElem_toArray, List.getElem_cons_zero, List.getElem_cons_succ]
    refine hl_take ?v25 rfl (by kernel_rfl) ?y25 ?z25
    case y25 => intro W hW; skip; replace hW := Lib.hid hW; go_simp; try rfl
    case z25 =>
    simp only [Act.put, List.setIfInBounds_toArray, List.set_cons_succ, List.set_cons_zero, List.getElem_toArray, List.getElem_cons_zero, List.getElem_cons_succ]
    refine hl_take ?v26 rfl (by kernel_rfl) ?y26 ?z26
    case y26 => intro W hW; skip; replace hW := Lib.hid hW; go_simp; try rfl
    case z26 =>
    simp only [Act.put, List.setIfInBounds_toArray, List.set_cons_succ, List.set_cons_zero, List.getElem_toArray, List.getElem_cons_zero, List.getElem_cons_succ]
    refine hl_take ?v27 rfl (by kernel_rfl) ?y27 ?z27
    case y27 => intro W hW; skip; replace hW := Lib.hid hW; go_simp; try rfl
    case z27 =>
    simp only [Act.put, List.setIfInBounds_toArray, List.set_cons_succ, List.set_cons_zero, List.getElem_toArray, List.getElem_cons_zero, List.getElem_cons_succ]
    refine hl_take ?v28 rfl (by kernel_rfl) ?y28 ?z28
    case y28 => intro W hW; skip; replace hW := Lib.hid hW; go_simp; try rfl
    case z28 =>
    simp only [Act.put, List.setIfInBounds_toArray, List.set_cons_succ, List.set_cons_zero, List.getElem_toArray, List.getElem_cons_zero, List.getElem_cons_succ]
    refine hl_take ?v29 rfl (by kernel_rfl) ?y29 ?z29
    case y29 => intro W hW; skip; replace hW := Lib.hid hW; go_simp; try rfl
    case z29 =>
    simp only [Act.put, List.setIfInBounds_toArray, List.set_cons_succ, List.set_cons_zero, List.getElem_toArray, List.getElem_cons_zero, List.getElem_cons_succ]
    refine hl_take ?v30 rfl (by kernel_rfl) ?y30 ?z30
    case y30 => intro W hW; change Sep W _ at hW; have d0 := hW.tail.b2.2.1; have d1 := hW.tail.b2.2.2.1; replace hW := Lib.hid hW; go_simp; try rfl
    case z30 =>
    simp only [Act.put, List.setIfInBounds_toArray, List.set_cons_succ, List.set_cons_zero, List.getElem_toArray, List.getElem_cons_zero, List.getElem_cons_succ]
    refine hl_take ?v31 rfl (by kernel_rfl) ?y31 ?z31
    case y31 => intro W hW; change Sep W _ at hW; have d0 := hW.b2.2.1; have d1 := hW.b2.2.2.1; replace hW := Lib.hid hW; go_simp; try rfl
    case z31 =>
    simp only [Act.put, List.setIfInBounds_toArray, List.set_cons_succ, List.set_cons_zero, List.getElem_toArray, List.getElem_cons_zero, List.getElem_cons_succ]
    refine hl_take ?v32 rfl (by kernel_rfl) ?y32 ?z32
    case y32 => intro W hW; skip; replace hW := Lib.hid hW; go_simp; try rfl
    case z32 =>
    simp only [Act.put, List.setIfInBounds_toArray, List.set_cons_succ, List.set_cons_zero, List.getElem_toArray, List.getElem_cons_zero, List.getElem_cons_succ]
    refine hl_take ?v33 rfl (by kernel_rfl) ?y33 ?z33
    case y33 => intro W hW; skip; replace hW := Lib.hid hW; go_simp; try rfl
    case z33 =>
    simp only [Act.put, List.setIfInBounds_toArray, List.set_cons_succ, List.set_cons_zero, List.getElem_toArray, List.getElem_cons_zero, List.getElem_cons_succ]
    refine hl_take ?v34 rfl (by kernel_rfl) ?y34 ?z34
    case y34 => intro W hW; skip; replace hW := Lib.hid hW; go_simp; try rfl
    case z34 =>
    simp only [Act.put, List.setIfInBounds_toArray, List.set_cons_succ, List.set_cons_zero, List.getElem_toArray, List.getElem_cons_zero, List.getElem_cons_succ]
    refine hl_take ?v35 rfl (by kernel_rfl) ?y35 ?z35
    case y35 => intro W hW; skip; replace hW := Lib.hid hW; go_simp; try rfl
    case z35 =>
    simp only [Act.put, List.setIfInBounds_toArray, List.set_cons_succ, List.set_cons_zero, List.getElem_toArray, List.getElem_cons_zero, List.getElem_cons_succ]
    refine hl_take ?v36 rfl (by kernel_rfl) ?y36 ?z36
    case y36 => intro W hW; skip; replace hW := Lib.hid hW; go_simp; try rfl
    case z36 =>
    simp only [Act.put, List.setIfInBounds_toArray, List.set_cons_succ, List.set_cons_zero, List.getElem_toArray, List.getElem_cons_zero, List.getElem_cons_succ]
    refine hl_take ?v37 rfl (by kernel_rfl) ?y37 ?z37
    case y37 => intro W hW; skip; replace hW := Lib.hid hW; go_simp; try rfl
    case z37 =>
    simp only [Act.put, List.setIfInBounds_toArray, List.set_cons_succ, List.set_cons_zero, List.getElem_toArray, List.getElem_cons_zero, List.getElem_cons_succ]
    refine hl_take ?v38 rfl (by kernel_rfl) ?y38 ?z38
    case y38 => intro W hW; skip; replace hW := Lib.hid hW; go_simp; try rfl
    case z38 =>
    simp only [Act.put, List.setIfInBounds_toArray, List.set_cons_succ, List.set_cons_zero, List.getElem_toArray, List.getElem_cons_zero, List.getElem_cons_succ]
    refine hl_take ?v39 rfl (by kernel_rfl) ?y39 ?z39
    case y39 => intro W hW; skip; replace hW := Lib.hid hW; go_simp; try rfl
    case z39 =>
    simp only [Act.put, List.setIfInBounds_toArray, List.set_cons_succ, List.set_cons_zero, List.getElem_toArray, List.getElem_cons_zero, List.getElem_cons_succ]
    refine hl_take ?v40 rfl (by kernel_rfl) ?y40 ?z40
    case y40 => intro W hW; change Sep W _ at hW; have d0 := hW.tail.tail.tail.tail.tail.tail.tail.tail.tail.b2.2.1; have d1 := hW.tail.tail.tail.tail.tail.tail.tail.tail.tail.b2.2.2.1; replace hW := Lib.hid hW; go_simp; try rfl
    case z40 =>
    simp only [Act.put, List.setIfInBounds_toArray, List.set_cons_succ, List.set_cons_zero, List.getElem_toArray, List.getElem_cons_zero, List.getElem_cons_succ]
    refine hl_take ?v41 rfl (by kernel_rfl) ?y41 ?z41
    case y41 => intro W hW; change Sep W _ at hW; have d0 := hW.tail.tail.tail.tail.tail.tail.tail.tail.tail.b2.2.1; have d1 := hW.tail.tail.tail.tail.tail.tail.tail.tail.tail.b2.2.2.1; replace hW := Lib.hid hW; go_simp; try rfl
    case z41 =>
    simp only [Act.put, List.setIfInBounds_toArray, List.set_cons_succ, List.set_cons_zero, List.getElem_toArray, List.getElem_cons_zero, List.getElem_cons_succ]
    refine hl_one rfl (by kernel_rfl) (fun K hK => ?_)
    go_simp
    refine (K1.out _).mono ?_
    rintro e x1 ⟨rfl, q⟩
    replace hS := Lib.hid (hS.out.below q)
    clear q
    refine hK.out _ _ hS.out ?_
    clear hK K
    try simp only [Act.put, List.setIfInBounds_toArray, List.set_cons_succ, List.set_cons_zero, List.getElem_toArray, List.getElem_cons_zero, List.getElem_cons_succ]
    refine hl_one rfl (by kernel_rfl) (fun K hK => ?_)
    go_simp
    refine (K2.out _).mono ?_
    rintro e x1 ⟨rfl, q⟩
    replace hS := Lib.hid (hS.out.below q)
    clear q
    refine hK.out _ _ hS.out ?_
    clear hK K
    try simp only [Act.put, List.setIfInBounds_toArray, List.set_cons_succ, List.set_cons_zero, List.getElem_toArray, List.getElem_cons_zero, List.getElem_cons_succ]
    refine hl_take ?v42 rfl (by kernel_rfl) ?y42 ?z42
    case y42 => intro W hW; skip; replace hW := Lib.hid hW; go_simp; try rfl
    case z42 =>
    simp only [Act.put, List.setIfInBounds_toArray, List.set_cons_succ, List.set_cons_zero, List.getElem_toArray, List.getElem_cons_zero, List.getElem_cons_succ]
    refine hl_take ?v43 rfl (by kernel_rfl) ?y43 ?z43
    case y43 => intro W hW; skip; replace hW := Lib.hid hW; go_simp; try rfl
    case z43 =>
    simp only [Act.put, List.setIfInBounds_toArray, List.set_cons_succ, List.set_cons_zero, List.getElem_toArray, List.getElem_cons_zero, List.getElem_cons_succ]
    refine hl_take ?v44 rfl (by kernel_rfl) ?y44 ?z44
    case y44 => intro W hW; skip; replace hW := Lib.hid hW; go_simp; try rfl
    case z44 =>
    simp only [Act.put, List.setIfInBounds_toArray, List.set_cons_succ, List.set_cons_zero, List.getElem_toArray, List.getElem_cons_zero, List.getElem_cons_succ]
    refine hl_take ?v45 rfl (by kernel_rfl) ?y45 ?z45
    case y45 => intro W hW; change Sep W _ at hW; have d0 := hW.tail.tail.tail.tail.tail.tail.tail.tail.tail.b2.2.1; have d1 := hW.tail.tail.tail.tail.tail.tail.tail.tail.tail.b2.2.2.1; replace hW := Lib.hid hW; go_simp; try rfl
    case z45 =>
    simp only [Act.put, List.setIfInBounds_toArray, List.set_cons_succ, List.set_cons_zero, List.getElem_toArray, List.getElem_cons_zero, List.getElem_cons_succ]
    refine hl_take ?v46 rfl (by kernel_rfl) ?y46 ?z46
    case y46 => intro W hW; change Sep W _ at hW; have d0 := hW.tail.tail.tail.tail.tail.tail.tail.tail.tail.b2.2.1; have d1 := hW.tail.tail.tail.tail.tail.tail.tail.tail.tail.b2.2.2.1; replace hW := Lib.hid hW; go_simp; try rfl
    case z46 =>
    simp only [Act.put, List.setIfInBounds_toArray, List.set_cons_succ, List.set_cons_zero, List.getElem_toArray, List.getElem_cons_zero, List.getElem_cons_succ]
    refine hl_one rfl (by kernel_rfl) (fun K hK => ?_)
    go_simp
    refine (L1.out _).mono ?_
    rintro e x1 ⟨rfl, q⟩
    replace hS := Lib.hid (hS.out.below q)
    clear q
    refine hK.out _ _ hS.out ?_
    clear hK K
    try simp only [Act.put, List.setIfInBounds_toArray, List.set_cons_succ, List.set_cons_zero, List.getElem_toArray, List.getElem_cons_zero, List.getElem_cons_succ]
    refine hl_one rfl (by kernel_rfl) (fun K hK => ?_)
    go_simp
    refine (L2.out _).mono ?_
    rintro e x1 ⟨rfl, q⟩
    replace hS := Lib.hid (hS.out.below q)
    clear q
    refine hK.out _ _ hS.out ?_
    clear hK K
    try simp only [Act.put, List.setIfInBounds_toArray, List.set_cons_succ, List.set_cons_zero, List.getElem_toArray, List.getElem_cons_zero, List.getElem_cons_succ]
    refine hl_take ?v47 rfl (by kernel_rfl) ?y47 ?z47
    case y47 => intro W hW; skip; replace hW := Lib.hid hW; go_simp; try rfl
    case z47 =>
    simp only [Act.put, List.setIfInBounds_toArray, List.set_cons_succ, List.set_cons_zero, List.getElem_toArray, List.getElem_cons_zero, List.getElem_cons_succ]
    refine hl_take ?v48 rfl (by kernel_rfl) ?y48 ?z48
    case y48 => intro W hW; skip; replace hW := Lib.hid hW; go_simp; try rfl
    case z48 =>
    simp only [Act.put, List.setIfInBounds_toArray, List.set_cons_succ, List.set_cons_zero, List.getElem_toArray, List.getElem_cons_zero, List.getElem_cons_succ]
    refine hl_take ?v49 rfl (by kernel_rfl) ?y49 ?z49
    case y49 => intro W hW; skip; replace hW := Lib.hid hW; go_simp; try rfl
    case z49 =>
    simp only [Act.put, List.setIfInBounds_toArray, List.set_cons_succ, List.set_cons_zero, List.getElem_toArray, List.getElem_cons_zero, List.getElem_cons_succ]
    refine hl_take ?v50 rfl (by kernel_rfl) ?y50 ?z50
    case y50 => intro W hW; change Sep W _ at hW; have d0 := hW.tail.tail.tail.tail.tail.tail.tail.tail.tail.b2.2.1; have d1 := hW.tail.tail.tail.tail.tail.tail.tail.tail.tail.b2.2.2.1; replace hW := Lib.hid hW; go_simp; try rfl
    case z50 =>
    simp only [Act.put, List.setIfInBounds_toArray, List.set_cons_succ, List.set_cons_zero, List.getElem_toArray, List.getElem_cons_zero, List.getElem_cons_succ]
    refine hl_take ?v51 rfl (by kernel_rfl) ?y51 ?z51
    case y51 => intro W hW; change Sep W _ at hW; have d0 := hW.tail.tail.tail.tail.tail.tail.tail.tail.tail.b2.2.1; have d1 := hW.tail.tail.tail.tail.tail.tail.tail.tail.tail.b2.2.2.1; replace hW := Lib.hid hW; go_simp; try rfl
    case z51 =>
    simp only [Act.put, List.setIfInBounds_toArray, List.set_cons_succ, List.set_cons_zero, List.getElem_toArray, List.getElem_cons_zero, List.getElem_cons_succ]
    refine hl_one rfl (by kernel_rfl) (fun K hK => ?_)
    go_simp
    refine (ancestors_any _ _ _).mono ?_
    rintro e x1 ⟨g, k, rfl, hk, hA⟩
    have hk2 := hk.lt
    have hRN := Lib.hid (anc_RN hk hA)
    replace hk := Lib.hid hk
    replace hS := Lib.hid (hA.graft hS.out).tail
    clear hA
    refine hK.out _ _ hS.out ?_
    clear hK K
    try simp only [Act.put, List.setIfInBounds_toArray, List.set_cons_succ, List.set_cons_zero, List.getElem_toArray, List.getElem_cons_zero, List.getElem_cons_succ]
    refine hl_one rfl (by kernel_rfl) (fun K hK => ?_)
    go_simp
    refine (ancestorsR_any _ _ _).mono ?_
    rintro e x2 ⟨g2, k2, c2', rfl, hk3, hR2, q⟩
    obtain rfl := AncK.uniq hk.out hk3
    replace hRN := Lib.hid (hRN.out.below q)
    replace hR2 := Lib.hid hR2
    replace hS := Lib.hid (hS.out.below q)
    clear q hk3
    refine hK.out _ _ hS.out ?_
    clear hK K
    try simp only [Act.put, List.setIfInBounds_toArray, List.set_cons_succ, List.set_cons_zero, List.getElem_toArray, List.getElem_cons_zero, List.getElem_cons_succ]
    refine hl_one rfl (by kernel_rfl) (fun K hK => ?_)
    go_simp
    refine (sameN_true _ _ _ _ (by simp only [ancL, List.length_take]; simp; omega) hRN.out hR2.out).mono ?_
    rintro e x3 ⟨rfl, m, rfl⟩
    replace hS := Lib.hid (hS.out.drewN m)
    clear hRN hR2 hk hk2
    refine hK.out _ _ hS.out ?_
    clear hK K
    try simp only [Act.put, List.setIfInBounds_toArray, List.set_cons_succ, List.set_cons_zero, List.getElem_toArray, List.getElem_cons_zero, List.getElem_cons_succ]
    refine hl_take ?v52 rfl (by kernel_rfl) ?y52 ?z52
    case y52 => intro W hW; skip; replace hW := Lib.hid hW; go_simp; try rfl
    case z52 =>
    simp only [Act.put, List.setIfInBounds_toArray, List.set_cons_succ, List.set_cons_zero, List.getElem_toArray, List.getElem_cons_zero, List.getElem_cons_succ]
    refine hl_take ?v53 rfl (by kernel_rfl) ?y53 ?z53
    case y53 => intro W hW; skip; replace hW := Lib.hid hW; go_simp; try rfl
    case z53 =>
    simp only [Act.put, List.setIfInBounds_toArray, List.set_cons_succ, List.set_cons_zero, List.getElem_toArray, List.getElem_cons_zero, List.getElem_cons_succ]
    refine hl_take ?v54 rfl (by kernel_rfl) ?y54 ?z54
    case y54 => intro W hW; change Sep W _ at hW; have d0 := hW.tail.tail.tail.tail.tail.tail.tail.tail.tail.b2.2.1; have d1 := hW.tail.tail.tail.tail.tail.tail.tail.tail.tail.b2.2.2.1; replace hW := Lib.hid hW; go_simp; try rfl
    case z54 =>
    simp only [Act.put, List.setIfInBounds_toArray, List.set_cons_succ, List.set_cons_zero, List.getElem_toArray, List.getElem_cons_zero, List.getElem_cons_succ]
    refine hl_take ?v55 rfl (by kernel_rfl) ?y55 ?z55
    case y55 => intro W hW; change Sep W _ at hW; have d0 := hW.tail.tail.tail.tail.tail.tail.tail.tail.b2.2.1; have d1 := hW.tail.tail.tail.tail.tail.tail.tail.tail.b2.2.2.1; replace hW := Lib.hid hW; go_simp; try rfl
    case z55 =>
    simp only [Act.put, List.setIfInBounds_toArray, List.set_cons_succ, List.set_cons_zero, List.getElem_toArray, List.getElem_cons_zero, List.getElem_cons_succ]
    refine hl_take ?v56 rfl (by kernel_rfl) ?y56 ?z56
    case y56 => intro W hW; change Sep W _ at hW; have d0 := hW.tail.tail.tail.tail.tail.tail.tail.tail.tail.b2.2.1; have d1 := hW.tail.tail.tail.tail.tail.tail.tail.tail.tail.b2.2.2.1; replace hW := Lib.hid hW; go_simp; try rfl
    case z56 =>
    simp only [Act.put, List.setIfInBounds_toArray, List.set_cons_succ, List.set_cons_zero, List.getElem_toArray, List.getElem_cons_zero, List.getElem_cons_succ]
    refine hl_take ?v57 rfl (by kernel_rfl) ?y57 ?z57
    case y57 => intro W hW; change Sep W _ at hW; have d0 := hW.tail.tail.tail.tail.tail.tail.tail.tail.b2.2.1; have d1 := hW.tail.tail.tail.tail.tail.tail.tail.tail.b2.2.2.1; replace hW := Lib.hid hW; go_simp; try rfl
    case z57 =>
    simp only [Act.put, List.setIfInBounds_toArray, List.set_cons_succ, List.set_cons_zero, List.getElem_toArray, List.getElem_cons_zero, List.getElem_cons_succ]
    refine hl_one rfl (by kernel_rfl) (fun K hK => ?_)
    go_simp
    refine (U1.out _).mono ?_
    rintro e x1 ⟨rfl, q⟩
    replace hS := Lib.hid (hS.out.below q)
    clear q
    refine hK.out _ _ hS.out ?_
    clear hK K
    try simp only [Act.put, List.setIfInBounds_toArray, List.set_cons_succ, List.set_cons_zero, List.getElem_toArray, List.getElem_cons_zero, List.getElem_cons_succ]
    refine hl_one rfl (by kernel_rfl) (fun K hK => ?_)
    go_simp
    refine (U2.out _).mono ?_
    rintro e x1 ⟨rfl, q⟩
    replace hS := Lib.hid (hS.out.below q)
    clear q
    refine hK.out _ _ hS.out ?_
    clear hK K
    try simp only [Act.put, List.setIfInBounds_toArray, List.set_cons_succ, List.set_cons_zero, List.getElem_toArray, List.getElem_cons_zero, List.getElem_cons_succ]
    refine hl_take ?v58 rfl (by kernel_rfl) ?y58 ?z58
    case y58 => intro W hW; skip; replace hW := Lib.hid hW; go_simp; try rfl
    case z58 =>
    simp only [Act.put, List.setIfInBounds_toArray, List.set_cons_succ, List.set_cons_zero, List.getElem_toArray, List.getElem_cons_zero, List.getElem_cons_succ]
    refine hl_take ?v59 rfl (by kernel_rfl) ?y59 ?z59
    case y59 => intro W hW; skip; replace hW := Lib.hid hW; go_simp; try rfl
    case z59 =>
    simp only [Act.put, List.setIfInBounds_toArray, List.set_cons_succ, List.set_cons_zero, List.getElem_toArray, List.getElem_cons_zero, List.getElem_cons_succ]
    refine hl_take ?v60 rfl (by kernel_rfl) ?y60 ?z60
    case y60 => intro W hW; skip; replace hW := Lib.hid hW; go_simp; try rfl
    case z60 =>
    simp only [Act.put, List.setIfInBounds_toArray, List.set_cons_succ, List.set_cons_zero, List.getElem_toArray, List.getElem_cons_zero, List.getElem_cons_succ]
    refine hl_take ?v61 rfl (by kernel_rfl) ?y61 ?z61
    case y61 => intro W hW; change Sep W _ at hW; have d0 := hW.tail.tail.tail.tail.tail.tail.tail.tail.tail.b2.2.1; have d1 := hW.tail.tail.tail.tail.tail.tail.tail.tail.tail.b2.2.2.1; replace hW := Lib.hid hW; go_simp; try rfl
    case z61 =>
    simp only [Act.put, List.setIfInBounds_toArray, List.set_cons_succ, List.set_cons_zero, List.getElem_toArray, List.getElem_cons_zero, List.getElem_cons_succ]
    refine hl_take ?v62 rfl (by kernel_rfl) ?y62 ?z62
    case y62 => intro W hW; change Sep W _ at hW; have d0 := hW.tail.tail.tail.tail.tail.tail.tail.tail.b2.2.1; have d1 := hW.tail.tail.tail.tail.tail.tail.tail.tail.b2.2.2.1; replace hW := Lib.hid hW; go_simp; try rfl
    case z62 =>
    simp only [Act.put, List.setIfInBounds_toArray, List.set_cons_succ, List.set_cons_zero, List.getElem_toArray, List.getElem_cons_zero, List.getElem_cons_succ]
    refine hl_take ?v63 rfl (by kernel_rfl) ?y63 ?z63
    case y63 => intro W hW; change Sep W _ at hW; have d0 := hW.tail.tail.tail.tail.tail.tail.tail.tail.tail.b2.2.1; have d1 := hW.tail.tail.tail.tail.tail.tail.tail.tail.tail.b2.2.2.1; replace hW := Lib.hid hW; go_simp; try rfl
    case z63 =>
    simp only [Act.put, List.setIfInBounds_toArray, List.set_cons_succ, List.set_cons_zero, List.getElem_toArray, List.getElem_cons_zero, List.getElem_cons_succ]
    refine hl_take ?v64 rfl (by kernel_rfl) ?y64 ?z64
    case y64 => intro W hW; change Sep W _ at hW; have d0 := hW.tail.tail.tail.tail.tail.tail.tail.tail.b2.2.1; have d1 := hW.tail.tail.tail.tail.tail.tail.tail.tail.b2.2.2.1; replace hW := Lib.hid hW; go_simp; try rfl
    case z64 =>
    simp only [Act.put, List.setIfInBounds_toArray, List.set_cons_succ, List.set_cons_zero, List.getElem_toArray, List.getElem_cons_zero, List.getElem_cons_succ]
    refine hl_one rfl (by kernel_rfl) (fun K hK => ?_)
    go_simp
    refine (M1.out _).mono ?_
    rintro e x1 ⟨rfl, q⟩
    replace hS := Lib.hid (hS.out.below q)
    clear q
    refine hK.out _ _ hS.out ?_
    clear hK K
    try simp only [Act.put, List.setIfInBounds_toArray, List.set_cons_succ, List.set_cons_zero, List.getElem_toArray, List.getElem_cons_zero, List.getElem_cons_succ]
    refine hl_one rfl (by kernel_rfl) (fun K hK => ?_)
    go_simp
    refine (M2.out _).mono ?_
    rintro e x1 ⟨rfl, q⟩
    replace hS := Lib.hid (hS.out.below q)
    clear q
    refine hK.out _ _ hS.out ?_
    clear hK K
    try simp only [Act.put, List.setIfInBounds_toArray, List.set_cons_succ, List.set_cons_zero, List.getElem_toArray, List.getElem_cons_zero, List.getElem_cons_succ]
    refine hl_take ?v65 rfl (by kernel_rfl) ?y65 ?z65
    case y65 => intro W hW; skip; replace hW := Lib.hid hW; go_simp; try rfl
    case z65 =>
    simp only [Act.put, List.setIfInBounds_toArray, List.set_cons_succ, List.set_cons_zero, List.getElem_toArray, List.getElem_cons_zero, List.getElem_cons_succ]
    refine hl_take ?v66 rfl (by kernel_rfl) ?y66 ?z66
    case y66 => intro W hW; skip; replace hW := Lib.hid hW; go_simp; try rfl
    case z66 =>
    simp only [Act.put, List.setIfInBounds_toArray, List.set_cons_succ, List.set_cons_zero, List.getElem_toArray, List.getElem_cons_zero, List.getElem_cons_succ]
    refine hl_take ?v67 rfl (by kernel_rfl) ?y67 ?z67
    case y67 => intro W hW; skip; replace hW := Lib.hid hW; go_simp; try rfl
    case z67 =>
    simp only [Act.put, List.setIfInBounds_toArray, List.set_cons_succ, List.set_cons_zero, List.getElem_toArray, List.getElem_cons_zero, List.getElem_cons_succ]
    refine hl_take ?v68 rfl (by kernel_rfl) ?y68 ?z68
    case y68 => intro W hW; change Sep W _ at hW; have d0 := hW.tail.tail.tail.tail.tail.tail.tail.tail.tail.b2.2.1; have d1 := hW.tail.tail.tail.tail.tail.tail.tail.tail.tail.b2.2.2.1; replace hW := Lib.hid hW; go_simp; try rfl
    case z68 =>
    simp only [Act.put, List.setIfInBounds_toArray, List.set_cons_succ, List.set_cons_zero, List.getElem_toArray, List.getElem_cons_zero, List.getElem_cons_succ]
    refine hl_take ?v69 rfl (by kernel_rfl) ?y69 ?z69
    case y69 => intro W hW; change Sep W _ at hW; have d0 := hW.tail.tail.tail.tail.tail.tail.tail.tail.tail.b2.2.1; have d1 := hW.tail.tail.tail.tail.tail.tail.tail.tail.tail.b2.2.2.1; replace hW := Lib.hid hW; go_simp; try rfl
    case z69 =>
    simp only [Act.put, List.setIfInBounds_toArray, List.set_cons_succ, List.set_cons_zero, List.getElem_toArray, List.getElem_cons_zero, List.getElem_cons_succ]
    refine hl_one rfl (by kernel_rfl) (fun K hK => ?_)
    go_simp
    refine (T1.out _).mono ?_
    rintro e x1 ⟨rfl, q⟩
    replace hS := Lib.hid (hS.out.below q)
    clear q
    refine hK.out _ _ hS.out ?_
    clear hK K
    try simp only [Act.put, List.setIfInBounds_toArray, List.set_cons_succ, List.set_cons_zero, List.getElem_toArray, List.getElem_cons_zero, List.getElem_cons_succ]
    refine hl_one rfl (by kernel_rfl) (fun K hK => ?_)
    go_simp
    refine (T2.out _).mono ?_
    rintro e x1 ⟨rfl, q⟩
    replace hS := Lib.hid (hS.out.below q)
    clear q
    refine hK.out _ _ hS.out ?_
    clear hK K
    try simp only [Act.put, List.setIfInBounds_toArray, List.set_cons_succ, List.set_cons_zero, List.getElem_toArray, List.getElem_cons_zero, List.getElem_cons_succ]
    refine hl_take ?v70 rfl (by kernel_rfl) ?y70 ?z70
    case y70 => intro W hW; skip; replace hW := Lib.hid hW; go_simp; try rfl
    case z70 =>
    simp only [Act.put, List.setIfInBounds_toArray, List.set_cons_succ, List.set_cons_zero, List.getElem_toArray, List.getElem_cons_zero, List.getElem_cons_succ]
    refine hl_take ?v71 rfl (by kernel_rfl) ?y71 ?z71
    case y71 => intro W hW; skip; replace hW := Lib.hid hW; go_simp; try rfl
    case z71 =>
    simp only [Act.put, List.setIfInBounds_toArray, List.set_cons_succ, List.set_cons_zero, List.getElem_toArray, List.getElem_cons_zero, List.getElem_cons_succ]
    refine hl_take ?v72 rfl (by kernel_rfl) ?y72 ?z72
    case y72 => intro W hW; skip; replace hW := Lib.hid hW; go_simp; try rfl
    case z72 =>
    simp only [Act.put, List.setIfInBounds_toArray, List.set_cons_succ, List.set_cons_zero, List.getElem_toArray, List.getElem_cons_zero, List.getElem_cons_succ]
    refine hl_one rfl (by kernel_rfl) (fun K hK => ?_)
    go_simp
    refine (database_any _).mono ?_
    rintro e x1 ⟨rfl, q⟩
    replace hS := Lib.hid (hS.out.below q)
    clear q
    refine hK.out _ _ hS.out ?_
    clear hK K
    try simp only [Act.put, List.setIfInBounds_toArray, List.set_cons_succ, List.set_cons_zero, List.getElem_toArray, List.getElem_cons_zero, List.getElem_cons_succ]
    refine hl_one rfl (by kernel_rfl) (fun K hK => ?_)
    go_simp
    refine (databaseR_any _).mono ?_
    rintro e x1 ⟨rfl, q⟩
    replace hS := Lib.hid (hS.out.below q)
    clear q
    refine hK.out _ _ hS.out ?_
    clear hK K
    try simp only [Act.put, List.setIfInBounds_toArray, List.set_cons_succ, List.set_cons_zero, List.getElem_toArray, List.getElem_cons_zero, List.getElem_cons_succ]
    refine hl_take ?v73 rfl (by kernel_rfl) ?y73 ?z73
    case y73 => intro W hW; skip; replace hW := Lib.hid hW; go_simp; try rfl
    case z73 =>
    simp only [Act.put, List.setIfInBounds_toArray, List.set_cons_succ, List.set_cons_zero, List.getElem_toArray, List.getElem_cons_zero, List.getElem_cons_succ]
    refine hl_take ?v74 rfl (by kernel_rfl) ?y74 ?z74
    case y74 => intro W hW; skip; replace hW := Lib.hid hW; go_simp; try rfl
    case z74 =>
    simp only [Act.put, List.setIfInBounds_toArray, List.set_cons_succ, List.set_cons_zero, List.getElem_toArray, List.getElem_cons_zero, List.getElem_cons_succ]
    refine hl_take ?v75 rfl (by kernel_rfl) ?y75 ?z75
    case y75 => intro W hW; skip; replace hW := Lib.hid hW; go_simp; try rfl
    case z75 =>
    simp only [Act.put, List.setIfInBounds_toArray, List.set_cons_succ, List.set_cons_zero, List.getElem_toArray, List.getElem_cons_zero, List.getElem_cons_succ]
    refine hl_done ?_
    skip
    go_wp2_with fail
    go_ret
    exact ⟨rfl, hS.out.tail.tail.tail.tail.tail.tail.tail.tail.tail.tail.gold⟩
  · have h6 : ¬ ((s.size : Int) ≤ 60) := by omega
    go_enter Tryd.func8, Tryd.ntmps8
    go_wp2_with fail
    refine (lives_any _).mono ?_
    rintro e w1 ⟨rfl, b1⟩
    replace hS := Lib.hid (hS.out.below b1)
    clear b1
    go_wp2_with fail
    go_ret
    exact ⟨rfl, hS.out.tail.tail.gold⟩
end Go.Proofs.YtiaibmabmholaaaDoor
