/-
  The walk of NameNames. Condition: RdW (the variables that Read's callees look at).
-/
import Derived.Test.YtiaibmabmholaaaDoorNmW
import Derived.Test.YtiaibmabmholaaaDoorHlN
namespace Go.Proofs.YtiaibmabmholaaaDoor
open Go.RowKit
theorem lines_eq {a b : ByteArray} (h : a = b) : (a.toList == b.toList) = true := by subst h; simp
set_option maxHeartbeats 8000000 in
set_option maxRecDepth 100000 in
theorem names_walk (w : World) (hR : RdW w) (h9 : 9 < w.heap.size) : Calls Tryd.prog 7 #[] w fun e w' => e = .returned (.bool true) ∧ Below w.heap.size w w' := by
  replace hR := Lib.hid hR
  have C1 := Lib.hid (table_w 100 0 0 2 (.inr ⟨by decide, rfl, rfl, rfl⟩))
  have C2 := Lib.hid (record_w 3 (-1) 0 0 2 (.inr ⟨by decide, rfl, rfl, rfl⟩))
  have C3 := Lib.hid (table_w (-1) 0 0 2 (.inr ⟨by decide, rfl, rfl, rfl⟩))
  have R1 := Lib.hid (read_w ⟨#[116, 49, 50, 46, 114, 48]⟩ 12 0 0 (by decide) (read_on 12 0 (by decide) (by decide +kernel)))
  have R2 := Lib.hid (read_w ⟨#[116, 48, 49, 50]⟩ 0 0 3 (by decide) (read_off (by decide +kernel)))
  have R3 := Lib.hid (read_w ⟨#[116, 49, 46, 114]⟩ 0 0 3 (by decide) (read_off (by decide +kernel)))
  have R4 := Lib.hid (read_w ⟨#[116, 49, 120]⟩ 0 0 3 (by decide) (read_off (by decide +kernel)))
  have R5 := Lib.hid (read_w ⟨#[116, 49, 48, 48]⟩ 0 0 3 (by decide) (read_off (by decide +kernel)))
  have R6 := Lib.hid (read_w ⟨#[100, 98]⟩ (-1) (-1) 0 (by decide) (read_on (-1) (-1) (by decide) (by decide +kernel)))
  have P1 := Lib.hid (parent_w 5 (-1) (-1) (-1) true (.inr (.inl ⟨by decide, rfl, rfl, rfl⟩)))
  have P2 := Lib.hid (parent_w (-1) (-1) 0 0 false (.inl ⟨by decide, rfl, rfl, rfl⟩))
  have L1 := Lib.hid (level_w 0 0 2 (by decide))
  have L2 := Lib.hid (level_w (-1) 0 (-1) (by decide))
  have K1 := Lib.hid (check_w (-1) 0 2 (by decide))
  have U1 := Lib.hid (under_w 1 2 1 (-1) true (by decide))
  have U2 := Lib.hid (under_w 1 (-1) 1 2 false (by decide))
  have U3 := Lib.hid (under_w 1 (-1) 1 (-1) true (by decide))
  have M1 := Lib.hid (compare_w 1 (-1) 1 0 (-1) (by decide))
  have T1 := Lib.hid (text_w 100 0 ⟨#[63]⟩ (by decide +kernel))
  have en1 : nmB 12 0 12 0 = true := rfl
  have en2 : nmB (-1) (-1) (-1) (-1) = true := rfl
  have hS := Lib.hid (Sep.start w)
  go_enter Tryd.func7, Tryd.ntmps7
  go_wp2_with fail
  refine (lives_any _).mono ?_
  rintro e w0 ⟨rfl, b1⟩
  replace hS := Lib.hid (hS.out.below b1)
  clear b1
  go_wp2_with fail
  refine (C1.out _ ).mono ?_
  rintro e w1 ⟨rfl, b1⟩
  replace hS := Lib.hid ((hS.out.below b1).alloc #[Value.int .i64 (0), Value.int .i64 (0)] 23)
  clear b1 C1
  replace hS := Lib.hid hS.out.tail
  go_wp2_with fail
  refine (C2.out _ ).mono ?_
  rintro e w2 ⟨rfl, b1⟩
  replace hS := Lib.hid ((hS.out.below b1).alloc #[Value.int .i64 (0), Value.int .i64 (0)] 23)
  clear b1 C2
  replace hS := Lib.hid hS.out.tail
  go_wp2_with fail
  refine (C3.out _ ).mono ?_
  rintro e w3 ⟨rfl, b1⟩
  replace hS := Lib.hid ((hS.out.below b1).alloc #[Value.int .i64 (0), Value.int .i64 (0)] 23)
  clear b1 C3
  replace hS := Lib.hid hS.out.tail
  go_wp2_with fail
  refine (R1.out _ (hR.out.later (hS.out.gold) h9) (Nat.lt_of_lt_of_le h9 (hS.out.gold).size)).mono ?_
  rintro e w4 ⟨rfl, b1⟩
  replace hS := Lib.hid ((hS.out.below b1).alloc #[Value.int .i64 (12), Value.int .i64 (0)] 23)
  clear b1 R1
  go_wp2_with fail
  refine (R2.out _ (hR.out.later (hS.out.tail.gold) h9) (Nat.lt_of_lt_of_le h9 (hS.out.tail.gold).size)).mono ?_
  rintro e w5 ⟨rfl, b1⟩
  replace hS := Lib.hid ((hS.out.below b1).alloc #[Value.int .i64 (0), Value.int .i64 (0)] 23)
  clear b1 R2
  replace hS := Lib.hid hS.out.tail
  go_wp2_with fail
  refine (R3.out _ (hR.out.later (hS.out.tail.gold) h9) (Nat.lt_of_lt_of_le h9 (hS.out.tail.gold).size)).mono ?_
  rintro e w6 ⟨rfl, b1⟩
  replace hS := Lib.hid ((hS.out.below b1).alloc #[Value.int .i64 (0), Value.int .i64 (0)] 23)
  clear b1 R3
  replace hS := Lib.hid hS.out.tail
  go_wp2_with fail
  refine (R4.out _ (hR.out.later (hS.out.tail.gold) h9) (Nat.lt_of_lt_of_le h9 (hS.out.tail.gold).size)).mono ?_
  rintro e w7 ⟨rfl, b1⟩
  replace hS := Lib.hid ((hS.out.below b1).alloc #[Value.int .i64 (0), Value.int .i64 (0)] 23)
  clear b1 R4
  replace hS := Lib.hid hS.out.tail
  go_wp2_with fail
  refine (R5.out _ (hR.out.later (hS.out.tail.gold) h9) (Nat.lt_of_lt_of_le h9 (hS.out.tail.gold).size)).mono ?_
  rintro e w8 ⟨rfl, b1⟩
  replace hS := Lib.hid ((hS.out.below b1).alloc #[Value.int .i64 (0), Value.int .i64 (0)] 23)
  clear b1 R5
  replace hS := Lib.hid hS.out.tail
  go_wp2_with fail
  refine (R6.out _ (hR.out.later (hS.out.tail.gold) h9) (Nat.lt_of_lt_of_le h9 (hS.out.tail.gold).size)).mono ?_
  rintro e w9 ⟨rfl, b1⟩
  replace hS := Lib.hid ((hS.out.below b1).alloc #[Value.int .i64 ((-1)), Value.int .i64 ((-1))] 23)
  clear b1 R6
  go_wp2_with fail
  refine (tK_any 5 _).mono ?_
  rintro e w10 ⟨rfl, b1⟩
  replace hS := Lib.hid (hS.out.below b1)
  clear b1
  go_wp2_with fail
  refine (P1.out _ ).mono ?_
  rintro e w11 ⟨rfl, b1⟩
  replace hS := Lib.hid ((hS.out.below b1).alloc #[Value.int .i64 ((-1)), Value.int .i64 ((-1))] 23)
  clear b1 P1
  go_wp2_with fail
  refine (db_any _).mono ?_
  rintro e w12 ⟨rfl, b1⟩
  replace hS := Lib.hid (hS.out.below b1)
  clear b1
  go_wp2_with fail
  refine (P2.out _ ).mono ?_
  rintro e w13 ⟨rfl, b1⟩
  replace hS := Lib.hid ((hS.out.below b1).alloc #[Value.int .i64 (0), Value.int .i64 (0)] 23)
  clear b1 P2
  replace hS := Lib.hid hS.out.tail
  have hT := hS
  clear hS hR h9
  go_wp2_with fail
  have hS := Lib.hid (show (fun W : World => Sep W [blk w11.heap.size 23 #[Value.int .i64 ((-1)), Value.int .i64 ((-1))], blk w9.heap.size 23 #[Value.int .i64 ((-1)), Value.int .i64 ((-1))], blk w4.heap.size 23 #[Value.int .i64 (12), Value.int .i64 (0)], old w]) _ from hT.out.drew)
  try dsimp only [List.append]
  refine hl_begin_n (fun W : World => Sep W [blk w11.heap.size 23 #[Value.int .i64 ((-1)), Value.int .i64 ((-1))], blk w9.heap.size 23 #[Value.int .i64 ((-1)), Value.int .i64 ((-1))], blk w4.heap.size 23 #[Value.int .i64 (12), Value.int .i64 (0)], old w]) ((0, true) :: (1, true) :: (2, true) :: (3, true) :: (4, true) :: (5, true) :: (6, true) :: (7, true) :: (8, true) :: (9, true) :: (10, true) :: (11, true) :: (12, true) :: (13, true) :: (14, true) :: (15, true) :: (16, false) :: (17, true) :: (18, true) :: (19, true) :: (20, true) :: (21, true) :: (22, true) :: (23, true) :: (24, true) :: (25, true) :: (26, true) :: (27, true) :: (28, true) :: (29, true) :: (30, true) :: (31, true) :: (32, true) :: (33, true) :: (34, true) :: (35, true) :: (36, true) :: (37, true) :: (38, true) :: (39, true) :: (40, true) :: (41, false) :: (42, true) :: (43, true) :: (44, true) :: (45, true) :: (46, true) :: (47, true) :: (48, true) :: (49, false) :: (50, true) :: (51, true) :: (52, true) :: (53, true) :: (54, true) :: (55, true) :: (56, true) :: (57, false) :: (58, false) :: (59, true) :: (60, true) :: (61, true) :: (62, true) :: (63, false) :: (64, true) :: (65, true) :: (66, true) :: (67, true) :: (68, false) :: (69, true) :: (70, true) :: (71, true) :: (72, false) :: (73, false) :: (74, false) :: (75, true) :: (76, true) :: (77, false) :: (78, false) :: (79, false) :: (80, true) :: (81, true) :: (82, true) :: (83, false) :: (84, false) :: (85, false) :: (86, true) :: (87, true) :: (88, false) :: (89, false) :: (90, false) :: (91, true) :: (92, true) :: (93, true) :: (94, true) :: (95, false) :: (96, true) :: (97, true) :: (98, true) :: (99, false) :: (100, false) :: (101, true) :: (102, true) :: (103, true) :: (104, true) :: []) (([], [2], 72) :: ([0], [71], 73) :: ([1], [72], 74) :: ([2], [4, 73], 75) :: ([3, 2], [74, 73], 76) :: ([2, 4], [73, 75], 77) :: ([5, 2], [76], 78) :: ([6], [6, 77], 79) :: ([7, 6], [78, 77], 80) :: ([6, 8], [77, 79], 81) :: ([9, 6], [80], 82) :: ([10], [8, 81], 83) :: ([11, 10], [82, 81], 84) :: ([10, 12], [81, 83], 85) :: ([13, 10], [84], 86) :: ([14], [7, 85], 87) :: ([14, 14], [85], 88) :: ([15, 16, 14], [86, 87, 85], 89) :: ([14, 17], [85, 88], 90) :: ([18, 16], [89], 91) :: ([19], [10, 90], 92) :: ([20, 19], [91, 90], 93) :: ([19, 21], [90, 92], 94) :: ([22, 19], [93], 95) :: ([23], [12, 94], 96) :: ([24, 23], [95, 94], 97) :: ([23, 25], [94, 96], 98) :: ([26, 23], [97], 99) :: ([27], [14, 98], 100) :: ([28, 27], [99, 98], 101) :: ([27, 29], [98, 100], 102) :: ([30, 27], [101], 103) :: ([31], [16, 102], 104) :: ([32, 31], [103, 102], 105) :: ([31, 33], [102, 104], 106) :: ([34, 31], [105], 107) :: ([35], [18, 106], 108) :: ([36, 35], [107, 106], 109) :: ([35, 37], [106, 108], 110) :: ([38, 35], [109], 111) :: ([39], [17, 110], 112) :: ([39, 39], [110], 113) :: ([40, 41, 39], [111, 112, 110], 114) :: ([39, 42], [110, 113], 115) :: ([43, 41], [114], 116) :: ([44], [20, 115], 117) :: ([44, 45], [115, 116], 118) :: ([46, 44], [117], 119) :: ([47], [19, 118], 120) :: ([47, 47], [118], 121) :: ([48, 49, 47], [119, 120, 118], 122) :: ([47, 50], [118, 121], 123) :: ([51, 49], [122], 124) :: ([52], [22, 123], 125) :: ([53, 52], [124, 123], 126) :: ([52, 54], [123, 125], 127) :: ([55, 52], [126], 128) :: ([56, 56], [127], 129) :: ([57, 57, 56], [128, 127], 130) :: ([58, 56], [129, 127], 131) :: ([56, 59], [127, 130], 132) :: ([60, 58], [131], 133) :: ([61], [132], 134) :: ([62, 61, 61], [133, 132], 135) :: ([63, 61], [134, 132], 136) :: ([61, 64], [132, 135], 137) :: ([65, 63], [136], 138) :: ([66], [137], 139) :: ([67, 66, 66], [138, 137], 140) :: ([68, 66], [139, 137], 141) :: ([66, 69], [137, 140], 142) :: ([70, 68], [141], 143) :: ([71, 71], [142], 144) :: ([72, 71], [142], 145) :: ([72, 73, 73, 71], [143, 144, 142], 146) :: ([71, 74], [142, 145], 147) :: ([75, 74], [146], 148) :: ([76, 76], [147], 149) :: ([77, 76], [147], 150) :: ([77, 78, 78, 76], [148, 149, 147], 151) :: ([79, 76], [150, 147], 152) :: ([76, 80], [147, 151], 153) :: ([81, 79], [152], 154) :: ([82, 82], [153], 155) :: ([83, 82], [153], 156) :: ([83, 84, 84, 82], [154, 155, 153], 157) :: ([82, 85], [153, 156], 158) :: ([86, 85], [157], 159) :: ([87, 87], [158], 160) :: ([88, 87], [158], 161) :: ([88, 89, 89, 87], [159, 160, 158], 162) :: ([90, 87], [161, 158], 163) :: ([87, 91], [158, 162], 164) :: ([92, 90], [163], 165) :: ([93], [164], 166) :: ([94, 93, 93], [165, 164], 167) :: ([95, 93], [166, 164], 168) :: ([93, 96], [164, 167], 169) :: ([97, 95], [168], 170) :: ([98, 98], [169], 171) :: ([99, 99, 98], [170, 169], 172) :: ([100, 98], [171, 169], 173) :: ([101, 98], [172, 169], 174) :: ([98, 102], [169, 173], 175) :: ([103, 100, 0, 1, 2, 3, 4, 5, 6, 7, 8, 9, 10, 11, 12, 13, 14, 15, 16, 17, 18, 19, 20, 21, 22, 23, 24, 25, 26, 27, 28, 29, 30, 31, 32, 33, 34, 35, 36, 37, 38, 39, 40, 41, 42, 43, 44, 45, 46, 47, 48, 49, 50, 51, 52, 53, 54, 55, 56, 57, 58, 59, 60, 61, 62, 63, 64, 65, 66, 67, 68, 69, 70, 71, 72, 73, 74, 75, 76, 77, 78, 79, 80, 81, 82, 83, 84, 85, 86, 87, 88, 89, 90, 91, 92, 93, 94, 95, 96, 97, 98, 99, 100, 101, 102, 103], [174], 1) :: []) (by kernel_rfl) (by kernel_rfl) (by kernel_rfl) (by kernel_rfl) rfl (fun _ _ _ _ _ h => h) hS.out ?_
  change HL _ _ _ _ _ _ (World.drew _)
  generalize World.drew _ = wd at *
  refine hl_take ?v1 rfl (by kernel_rfl) ?y1 ?z1
  case y1 => intro W hW; skip; replace hW := Lib.hid hW; go_simp; try rfl
  case z1 =>
  simp only [Act.put, List.setIfInBounds_toArray, List.set_cons_succ, List.set_cons_zero, List.getElem_toArray, List.getElem_cons_zero, List.getElem_cons_succ]
  refine hl_take ?v2 rfl (by kernel_rfl) ?y2 ?z2
  case y2 => intro W hW; skip; replace hW := Lib.hid hW; go_simp; try rfl
  case z2 =>
  simp only [Act.put, List.setIfInBounds_toArray, List.set_cons_succ, List.set_cons_zero, List.getElem_toArray, List.getElem_cons_zero, List.getElem_cons_succ]
  refine hl_take ?v3 rfl (by kernel_rfl) ?y3 ?z3
  case y3 => intro W hW; skip; replace hW := Lib.hid hW; go_simp; try rfl
  case z3 =>
  simp only [Act.put, List.setIfInBounds_toArray, List.set_cons_succ, List.set_cons_zero, List.getElem_toArray, List.getElem_cons_zero, List.getElem_cons_succ]
  refine hl_take ?v4 rfl (by kernel_rfl) ?y4 ?z4
  case y4 => intro W hW; skip; replace hW := Lib.hid hW; go_simp; try rfl
  case z4 =>
  simp only [Act.put, List.setIfInBounds_toArray, List.set_cons_succ, List.set_cons_zero, List.getElem_toArray, List.getElem_cons_zero, List.getElem_cons_succ]
  refine hl_take ?v5 rfl (by kernel_rfl) ?y5 ?z5
  case y5 => intro W hW; skip; replace hW := Lib.hid hW; go_simp; try rfl
  case z5 =>
  simp only [Act.put, List.setIfInBounds_toArray, List.set_cons_succ, List.set_cons_zero, List.getElem_toArray, List.getElem_cons_zero, List.getElem_cons_succ]
  refine hl_take ?v6 rfl (by kernel_rfl) ?y6 ?z6
  case y6 => intro W hW; skip; replace hW := Lib.hid hW; go_simp; try rfl
  case z6 =>
  simp only [Act.put, List.setIfInBounds_toArray, List.set_cons_succ, List.set_cons_zero, List.getElem_toArray, List.getElem_cons_zero, List.getElem_cons_succ]
  refine hl_take ?v7 rfl (by kernel_rfl) ?y7 ?z7
  case y7 => intro W hW; skip; replace hW := Lib.hid hW; go_simp; try rfl
  case z7 =>
  simp only [Act.put, List.setIfInBounds_toArray, List.set_cons_succ, List.set_cons_zero, List.getElem_toArray, List.getElem_cons_zero, List.getElem_cons_succ]
  refine hl_take ?v8 rfl (by kernel_rfl) ?y8 ?z8
  case y8 => intro W hW; skip; replace hW := Lib.hid hW; go_simp; try rfl
  case z8 =>
  simp only [Act.put, List.setIfInBounds_toArray, List.set_cons_succ, List.set_cons_zero, List.getElem_toArray, List.getElem_cons_zero, List.getElem_cons_succ]
  refine hl_take ?v9 rfl (by kernel_rfl) ?y9 ?z9
  case y9 => intro W hW; skip; replace hW := Lib.hid hW; go_simp; try rfl
  case z9 =>
  simp only [Act.put, List.setIfInBounds_toArray, List.set_cons_succ, List.set_cons_zero, List.getElem_toArray, List.getElem_cons_zero, List.getElem_cons_succ]
  refine hl_take ?v10 rfl (by kernel_rfl) ?y10 ?z10
  case y10 => intro W hW; skip; replace hW := Lib.hid hW; go_simp; try rfl
  case z10 =>
  simp only [Act.put, List.setIfInBounds_toArray, List.set_cons_succ, List.set_cons_zero, List.getElem_toArray, List.getElem_cons_zero, List.getElem_cons_succ]
  refine hl_take ?v11 rfl (by kernel_rfl) ?y11 ?z11
  case y11 => intro W hW; skip; replace hW := Lib.hid hW; go_simp; try rfl
  case z11 =>
  simp only [Act.put, List.setIfInBounds_toArray, List.set_cons_succ, List.set_cons_zero, List.getElem_toArray, List.getElem_cons_zero, List.getElem_cons_succ]
  refine hl_take ?v12 rfl (by kernel_rfl) ?y12 ?z12
  case y12 => intro W hW; skip; replace hW := Lib.hid hW; go_simp; try rfl
  case z12 =>
  simp only [Act.put, List.setIfInBounds_toArray, List.set_cons_succ, List.set_cons_zero, List.getElem_toArray, List.getElem_cons_zero, List.getElem_cons_succ]
  refine hl_take ?v13 rfl (by kernel_rfl) ?y13 ?z13
  case y13 => intro W hW; skip; replace hW := Lib.hid hW; go_simp; try rfl
  case z13 =>
  simp only [Act.put, List.setIfInBounds_toArray, List.set_cons_succ, List.set_cons_zero, List.getElem_toArray, List.getElem_cons_zero, List.getElem_cons_succ]
  refine hl_take ?v14 rfl (by kernel_rfl) ?y14 ?z14
  case y14 => intro W hW; skip; replace hW := Lib.hid hW; go_simp; try rfl
  case z14 =>
  simp only [Act.put, List.setIfInBounds_toArray, List.set_cons_succ, List.set_cons_zero, List.getElem_toArray, List.getElem_cons_zero, List.getElem_cons_succ]
  refine hl_take ?v15 rfl (by kernel_rfl) ?y15 ?z15
  case y15 => intro W hW; skip; replace hW := Lib.hid hW; go_simp; try rfl
  case z15 =>
  simp only [Act.put, List.setIfInBounds_toArray, List.set_cons_succ, List.set_cons_zero, List.getElem_toArray, List.getElem_cons_zero, List.getElem_cons_succ]
  refine hl_take ?v16 rfl (by kernel_rfl) ?y16 ?z16
  case y16 => intro W hW; change Sep W _ at hW; have d0 := hW.b2.2.1; have d1 := hW.b2.2.2.1; have c0 := hW.to1.b2.2.1; have c1 := hW.to1.b2.2.2.1; have f0 := hW.to2.b2.2.1; have f1 := hW.to2.b2.2.2.1; replace hW := Lib.hid hW; go_simp; try rfl
  case z16 =>
  simp only [Act.put, List.setIfInBounds_toArray, List.set_cons_succ, List.set_cons_zero, List.getElem_toArray, List.getElem_cons_zero, List.getElem_cons_succ]
  refine hl_one rfl (by kernel_rfl) (fun K hK => ?_)
  go_simp
  refine (rK_any 12 0 _).mono ?_
  rintro e x1 ⟨rfl, b5⟩
  replace hS := Lib.hid (hS.out.below b5)
  clear b5
  refine hK.out _ _ hS.out ?_
  clear hK K
  try simp only [Act.put, List.setIfInBounds_toArray, List.set_cons_succ, List.set_cons_zero, List.getElem_toArray, List.getElem_cons_zero, List.getElem_cons_succ]
  refine hl_take ?v17 rfl (by kernel_rfl) ?y17 ?z17
  case y17 => intro W hW; skip; replace hW := Lib.hid hW; go_simp; try rfl
  case z17 =>
  simp only [Act.put, List.setIfInBounds_toArray, List.set_cons_succ, List.set_cons_zero, List.getElem_toArray, List.getElem_cons_zero, List.getElem_cons_succ]
  refine hl_take ?v18 rfl (by kernel_rfl) ?y18 ?z18
  case y18 => intro W hW; skip; replace hW := Lib.hid hW; go_simp; try rfl
  case z18 =>
  simp only [Act.put, List.setIfInBounds_toArray, List.set_cons_succ, List.set_cons_zero, List.getElem_toArray, List.getElem_cons_zero, List.getElem_cons_succ]
  refine hl_take ?v19 rfl (by kernel_rfl) ?y19 ?z19
  case y19 => intro W hW; skip; replace hW := Lib.hid hW; go_simp; try rfl
  case z19 =>
  simp only [Act.put, List.setIfInBounds_toArray, List.set_cons_succ, List.set_cons_zero, List.getElem_toArray, List.getElem_cons_zero, List.getElem_cons_succ]
  refine hl_take ?v20 rfl (by kernel_rfl) ?y20 ?z20
  case y20 => intro W hW; skip; replace hW := Lib.hid hW; go_simp; try rfl
  case z20 =>
  simp only [Act.put, List.setIfInBounds_toArray, List.set_cons_succ, List.set_cons_zero, List.getElem_toArray, List.getElem_cons_zero, List.getElem_cons_succ]
  refine hl_take ?v21 rfl (by kernel_rfl) ?y21 ?z21
  case y21 => intro W hW; skip; replace hW := Lib.hid hW; go_simp; try rfl
  case z21 =>
  simp only [Act.put, List.setIfInBounds_toArray, List.set_cons_succ, List.set_cons_zero, List.getElem_toArray, List.getElem_cons_zero, List.getElem_cons_succ]
  refine hl_take ?v22 rfl (by kernel_rfl) ?y22 ?z22
  case y22 => intro W hW; skip; replace hW := Lib.hid hW; go_simp; try rfl
  case z22 =>
  simp only [Act.put, List.setIfInBounds_toArray, List.set_cons_succ, List.set_cons_zero, List.getElem_toArray, List.getElem_cons_zero, List.getElem_cons_succ]
  refine hl_take ?v23 rfl (by kernel_rfl) ?y23 ?z23
  case y23 => intro W hW; skip; replace hW := Lib.hid hW; go_simp; try rfl
  case z23 =>
  simp only [Act.put, List.setIfInBounds_toArray, List.set_cons_succ, List.set_cons_zero, List.getElem_toArray, List.getElem_cons_zero, List.getElem_cons_succ]
  refine hl_take ?v24 rfl (by kernel_rfl) ?y24 ?z24
  case y24 => intro W hW; skip; replace hW := Lib.hid hW; go_simp; try rfl
  case z24 =>
  simp only [Act.put, List.setIfInBounds_toArray, List.set_cons_succ, List.set_cons_zero, List.getElem_toArray, List.getElem_cons_zero, List.getElem_cons_succ]
  refine hl_take ?v25 rfl (by kernel_rfl) ?y25 ?z25
  case y25 => intro W hW; skip; replace hW := Lib.hid hW; go_simp; try rfl
  case z25 =>
  simp only [Act.put, List.setIfInBounds_toArray, List.set_cons_succ, List.set_cons_zero, List.getElem_toArray, List.getElem_cons_zero, List.getElem_cons_succ]
  refine hl_take ?v26 rfl (by kernel_rfl) ?y26 ?z26
  case y26 => intro W hW; skip; replace hW := Lib.hid hW; go_simp; try rfl
  case z26 =>
  simp only [Act.put, List.setIfInBounds_toArray, List.set_cons_succ, List.set_cons_zero, List.getElem_toArray, List.getElem_cons_zero, List.getElem_cons_succ]
  refine hl_take ?v27 rfl (by kernel_rfl) ?y27 ?z27
  case y27 => intro W hW; skip; replace hW := Lib.hid hW; go_simp; try rfl
  case z27 =>
  simp only [Act.put, List.setIfInBounds_toArray, List.set_cons_succ, List.set_cons_zero, List.getElem_toArray, List.getElem_cons_zero, List.getElem_cons_succ]
  refine hl_take ?v28 rfl (by kernel_rfl) ?y28 ?z28
  case y28 => intro W hW; skip; replace hW := Lib.hid hW; go_simp; try rfl
  case z28 =>
  simp only [Act.put, List.setIfInBounds_toArray, List.set_cons_succ, List.set_cons_zero, List.getElem_toArray, List.getElem_cons_zero, List.getElem_cons_succ]
  refine hl_take ?v29 rfl (by kernel_rfl) ?y29 ?z29
  case y29 => intro W hW; skip; replace hW := Lib.hid hW; go_simp; try rfl
  case z29 =>
  simp only [Act.put, List.setIfInBounds_toArray, List.set_cons_succ, List.set_cons_zero, List.getElem_toArray, List.getElem_cons_zero, List.getElem_cons_succ]
  refine hl_take ?v30 rfl (by kernel_rfl) ?y30 ?z30
  case y30 => intro W hW; skip; replace hW := Lib.hid hW; go_simp; try rfl
  case z30 =>
  simp only [Act.put, List.setIfInBounds_toArray, List.set_cons_succ, List.set_cons_zero, List.getElem_toArray, List.getElem_cons_zero, List.getElem_cons_succ]
  refine hl_take ?v31 rfl (by kernel_rfl) ?y31 ?z31
  case y31 => intro W hW; skip; replace hW := Lib.hid hW; go_simp; try rfl
  case z31 =>
  simp only [Act.put, List.setIfInBounds_toArray, List.set_cons_succ, List.set_cons_zero, List.getElem_toArray, List.getElem_cons_zero, List.getElem_cons_succ]
  refine hl_take ?v32 rfl (by kernel_rfl) ?y32 ?z32
  case y32 => intro W hW; skip; replace hW := Lib.hid hW; go_simp; try rfl
  case z32 =>
  simp only [Act.put, List.setIfInBounds_toArray, List.set_cons_succ, List.set_cons_zero, List.getElem_toArray, List.getElem_cons_zero, List.getElem_cons_succ]
  refine hl_take ?v33 rfl (by kernel_rfl) ?y33 ?z33
  case y33 => intro W hW; skip; replace hW := Lib.hid hW; go_simp; try rfl
  case z33 =>
  simp only [Act.put, List.setIfInBounds_toArray, List.set_cons_succ, List.set_cons_zero, List.getElem_toArray, List.getElem_cons_zero, List.getElem_cons_succ]
  refine hl_take ?v34 rfl (by kernel_rfl) ?y34 ?z34
  case y34 => intro W hW; skip; replace hW := Lib.hid hW; go_simp; try rfl
  case z34 =>
  simp only [Act.put, List.setIfInBounds_toArray, List.set_cons_succ, List.set_cons_zero, List.getElem_toArray, List.getElem_cons_zero, List.getElem_cons_succ]
  refine hl_take ?v35 rfl (by kernel_rfl) ?y35 ?z35
  case y35 => intro W hW; skip; replace hW := Lib.hid hW; go_simp; try rfl
  case z35 =>
  simp only [Act.put, List.setIfInBounds_toArray, List.set_cons_succ, List.set_cons_zero, List.getElem_toArray, List.getElem_cons_zero, List.getElem_cons_succ]
  refine hl_take ?v36 rfl (by kernel_rfl) ?y36 ?z36
  case y36 => intro W hW; skip; replace hW := Lib.hid hW; go_simp; try rfl
  case z36 =>
  simp only [Act.put, List.setIfInBounds_toArray, List.set_cons_succ, List.set_cons_zero, List.getElem_toArray, List.getElem_cons_zero, List.getElem_cons_succ]
  refine hl_take ?v37 rfl (by kernel_rfl) ?y37 ?z37
  case y37 => intro W hW; skip; replace hW := Lib.hid hW; go_simp; try rfl
  case z37 =>
  simp only [Act.put, List.setIfInBounds_toArray, List.set_cons_succ, List.set_cons_zero, List.getElem_toArray, List.getElem_cons_zero, List.getElem_cons_succ]
  refine hl_take ?v38 rfl (by kernel_rfl) ?y38 ?z38
  case y38 => intro W hW; skip; replace hW := Lib.hid hW; go_simp; try rfl
  case z38 =>
  simp only [Act.put, List.setIfInBounds_toArray, List.set_cons_succ, List.set_cons_zero, List.getElem_toArray, List.getElem_cons_zero, List.getElem_cons_succ]
  refine hl_take ?v39 rfl (by kernel_rfl) ?y39 ?z39
  case y39 => intro W hW; skip; replace hW := Lib.hid hW; go_simp; try rfl
  case z39 =>
  simp only [Act.put, List.setIfInBounds_toArray, List.set_cons_succ, List.set_cons_zero, List.getElem_toArray, List.getElem_cons_zero, List.getElem_cons_succ]
  refine hl_take ?v40 rfl (by kernel_rfl) ?y40 ?z40
  case y40 => intro W hW; change Sep W _ at hW; have d0 := hW.b2.2.1; have d1 := hW.b2.2.2.1; have c0 := hW.to1.b2.2.1; have c1 := hW.to1.b2.2.2.1; have f0 := hW.to2.b2.2.1; have f1 := hW.to2.b2.2.2.1; replace hW := Lib.hid hW; go_simp; try rfl
  case z40 =>
  simp only [Act.put, List.setIfInBounds_toArray, List.set_cons_succ, List.set_cons_zero, List.getElem_toArray, List.getElem_cons_zero, List.getElem_cons_succ]
  refine hl_one rfl (by kernel_rfl) (fun K hK => ?_)
  go_simp
  refine (database_any _).mono ?_
  rintro e x1 ⟨rfl, b5⟩
  replace hS := Lib.hid (hS.out.below b5)
  clear b5
  refine hK.out _ _ hS.out ?_
  clear hK K
  try simp only [Act.put, List.setIfInBounds_toArray, List.set_cons_succ, List.set_cons_zero, List.getElem_toArray, List.getElem_cons_zero, List.getElem_cons_succ]
  refine hl_take ?v41 rfl (by kernel_rfl) ?y41 ?z41
  case y41 => intro W hW; skip; replace hW := Lib.hid hW; go_simp; try rfl
  case z41 =>
  simp only [Act.put, List.setIfInBounds_toArray, List.set_cons_succ, List.set_cons_zero, List.getElem_toArray, List.getElem_cons_zero, List.getElem_cons_succ]
  refine hl_take ?v42 rfl (by kernel_rfl) ?y42 ?z42
  case y42 => intro W hW; skip; replace hW := Lib.hid hW; go_simp; try rfl
  case z42 =>
  simp only [Act.put, List.setIfInBounds_toArray, List.set_cons_succ, List.set_cons_zero, List.getElem_toArray, List.getElem_cons_zero, List.getElem_cons_succ]
  refine hl_take ?v43 rfl (by kernel_rfl) ?y43 ?z43
  case y43 => intro W hW; skip; replace hW := Lib.hid hW; go_simp; try rfl
  case z43 =>
  simp only [Act.put, List.setIfInBounds_toArray, List.set_cons_succ, List.set_cons_zero, List.getElem_toArray, List.getElem_cons_zero, List.getElem_cons_succ]
  refine hl_take ?v44 rfl (by kernel_rfl) ?y44 ?z44
  case y44 => intro W hW; skip; replace hW := Lib.hid hW; go_simp; try rfl
  case z44 =>
  simp only [Act.put, List.setIfInBounds_toArray, List.set_cons_succ, List.set_cons_zero, List.getElem_toArray, List.getElem_cons_zero, List.getElem_cons_succ]
  refine hl_take ?v45 rfl (by kernel_rfl) ?y45 ?z45
  case y45 => intro W hW; skip; replace hW := Lib.hid hW; go_simp; try rfl
  case z45 =>
  simp only [Act.put, List.setIfInBounds_toArray, List.set_cons_succ, List.set_cons_zero, List.getElem_toArray, List.getElem_cons_zero, List.getElem_cons_succ]
  refine hl_take ?v46 rfl (by kernel_rfl) ?y46 ?z46
  case y46 => intro W hW; skip; replace hW := Lib.hid hW; go_simp; try rfl
  case z46 =>
  simp only [Act.put, List.setIfInBounds_toArray, List.set_cons_succ, List.set_cons_zero, List.getElem_toArray, List.getElem_cons_zero, List.getElem_cons_succ]
  refine hl_take ?v47 rfl (by kernel_rfl) ?y47 ?z47
  case y47 => intro W hW; change Sep W _ at hW; have d0 := hW.b2.2.1; have d1 := hW.b2.2.2.1; have c0 := hW.to1.b2.2.1; have c1 := hW.to1.b2.2.2.1; have f0 := hW.to2.b2.2.1; have f1 := hW.to2.b2.2.2.1; replace hW := Lib.hid hW; go_simp; try rfl
  case z47 =>
  simp only [Act.put, List.setIfInBounds_toArray, List.set_cons_succ, List.set_cons_zero, List.getElem_toArray, List.getElem_cons_zero, List.getElem_cons_succ]
  refine hl_one rfl (by kernel_rfl) (fun K hK => ?_)
  go_simp
  refine (db_any _).mono ?_
  rintro e x1 ⟨rfl, b5⟩
  replace hS := Lib.hid (hS.out.below b5)
  clear b5
  refine hK.out _ _ hS.out ?_
  clear hK K
  try simp only [Act.put, List.setIfInBounds_toArray, List.set_cons_succ, List.set_cons_zero, List.getElem_toArray, List.getElem_cons_zero, List.getElem_cons_succ]
  refine hl_take ?v48 rfl (by kernel_rfl) ?y48 ?z48
  case y48 => intro W hW; skip; replace hW := Lib.hid hW; go_simp; try rfl
  case z48 =>
  simp only [Act.put, List.setIfInBounds_toArray, List.set_cons_succ, List.set_cons_zero, List.getElem_toArray, List.getElem_cons_zero, List.getElem_cons_succ]
  refine hl_take ?v49 rfl (by kernel_rfl) ?y49 ?z49
  case y49 => intro W hW; skip; replace hW := Lib.hid hW; go_simp; try rfl
  case z49 =>
  simp only [Act.put, List.setIfInBounds_toArray, List.set_cons_succ, List.set_cons_zero, List.getElem_toArray, List.getElem_cons_zero, List.getElem_cons_succ]
  refine hl_take ?v50 rfl (by kernel_rfl) ?y50 ?z50
  case y50 => intro W hW; skip; replace hW := Lib.hid hW; go_simp; try rfl
  case z50 =>
  simp only [Act.put, List.setIfInBounds_toArray, List.set_cons_succ, List.set_cons_zero, List.getElem_toArray, List.getElem_cons_zero, List.getElem_cons_succ]
  refine hl_take ?v51 rfl (by kernel_rfl) ?y51 ?z51
  case y51 => intro W hW; skip; replace hW := Lib.hid hW; go_simp; try rfl
  case z51 =>
  simp only [Act.put, List.setIfInBounds_toArray, List.set_cons_succ, List.set_cons_zero, List.getElem_toArray, List.getElem_cons_zero, List.getElem_cons_succ]
  refine hl_take ?v52 rfl (by kernel_rfl) ?y52 ?z52
  case y52 => intro W hW; skip; replace hW := Lib.hid hW; go_simp; try rfl
  case z52 =>
  simp only [Act.put, List.setIfInBounds_toArray, List.set_cons_succ, List.set_cons_zero, List.getElem_toArray, List.getElem_cons_zero, List.getElem_cons_succ]
  refine hl_take ?v53 rfl (by kernel_rfl) ?y53 ?z53
  case y53 => intro W hW; skip; replace hW := Lib.hid hW; go_simp; try rfl
  case z53 =>
  simp only [Act.put, List.setIfInBounds_toArray, List.set_cons_succ, List.set_cons_zero, List.getElem_toArray, List.getElem_cons_zero, List.getElem_cons_succ]
  refine hl_take ?v54 rfl (by kernel_rfl) ?y54 ?z54
  case y54 => intro W hW; skip; replace hW := Lib.hid hW; go_simp; try rfl
  case z54 =>
  simp only [Act.put, List.setIfInBounds_toArray, List.set_cons_succ, List.set_cons_zero, List.getElem_toArray, List.getElem_cons_zero, List.getElem_cons_succ]
  refine hl_one rfl (by kernel_rfl) (fun K hK => ?_)
  go_simp
  refine (rK_any 0 0 _).mono ?_
  rintro e x1 ⟨rfl, b5⟩
  replace hS := Lib.hid (hS.out.below b5)
  clear b5
  refine hK.out _ _ hS.out ?_
  clear hK K
  try simp only [Act.put, List.setIfInBounds_toArray, List.set_cons_succ, List.set_cons_zero, List.getElem_toArray, List.getElem_cons_zero, List.getElem_cons_succ]
  refine hl_one rfl (by kernel_rfl) (fun K hK => ?_)
  go_simp
  refine (L1.out _).mono ?_
  rintro e x1 ⟨rfl, b5⟩
  replace hS := Lib.hid (hS.out.below b5)
  clear b5
  refine hK.out _ _ hS.out ?_
  clear hK K
  try simp only [Act.put, List.setIfInBounds_toArray, List.set_cons_succ, List.set_cons_zero, List.getElem_toArray, List.getElem_cons_zero, List.getElem_cons_succ]
  refine hl_take ?v55 rfl (by kernel_rfl) ?y55 ?z55
  case y55 => intro W hW; skip; replace hW := Lib.hid hW; go_simp; try rfl
  case z55 =>
  simp only [Act.put, List.setIfInBounds_toArray, List.set_cons_succ, List.set_cons_zero, List.getElem_toArray, List.getElem_cons_zero, List.getElem_cons_succ]
  refine hl_take ?v56 rfl (by kernel_rfl) ?y56 ?z56
  case y56 => intro W hW; skip; replace hW := Lib.hid hW; go_simp; try rfl
  case z56 =>
  simp only [Act.put, List.setIfInBounds_toArray, List.set_cons_succ, List.set_cons_zero, List.getElem_toArray, List.getElem_cons_zero, List.getElem_cons_succ]
  refine hl_take ?v57 rfl (by kernel_rfl) ?y57 ?z57
  case y57 => intro W hW; skip; replace hW := Lib.hid hW; go_simp; try rfl
  case z57 =>
  simp only [Act.put, List.setIfInBounds_toArray, List.set_cons_succ, List.set_cons_zero, List.getElem_toArray, List.getElem_cons_zero, List.getElem_cons_succ]
  refine hl_take ?v58 rfl (by kernel_rfl) ?y58 ?z58
  case y58 => intro W hW; skip; replace hW := Lib.hid hW; go_simp; try rfl
  case z58 =>
  simp only [Act.put, List.setIfInBounds_toArray, List.set_cons_succ, List.set_cons_zero, List.getElem_toArray, List.getElem_cons_zero, List.getElem_cons_succ]
  refine hl_one rfl (by kernel_rfl) (fun K hK => ?_)
  go_simp
  refine (L2.out _).mono ?_
  rintro e x1 ⟨rfl, b5⟩
  replace hS := Lib.hid (hS.out.below b5)
  clear b5
  refine hK.out _ _ hS.out ?_
  clear hK K
  try simp only [Act.put, List.setIfInBounds_toArray, List.set_cons_succ, List.set_cons_zero, List.getElem_toArray, List.getElem_cons_zero, List.getElem_cons_succ]
  refine hl_take ?v59 rfl (by kernel_rfl) ?y59 ?z59
  case y59 => intro W hW; skip; replace hW := Lib.hid hW; go_simp; try rfl
  case z59 =>
  simp only [Act.put, List.setIfInBounds_toArray, List.set_cons_succ, List.set_cons_zero, List.getElem_toArray, List.getElem_cons_zero, List.getElem_cons_succ]
  refine hl_take ?v60 rfl (by kernel_rfl) ?y60 ?z60
  case y60 => intro W hW; skip; replace hW := Lib.hid hW; go_simp; try rfl
  case z60 =>
  simp only [Act.put, List.setIfInBounds_toArray, List.set_cons_succ, List.set_cons_zero, List.getElem_toArray, List.getElem_cons_zero, List.getElem_cons_succ]
  refine hl_take ?v61 rfl (by kernel_rfl) ?y61 ?z61
  case y61 => intro W hW; skip; replace hW := Lib.hid hW; go_simp; try rfl
  case z61 =>
  simp only [Act.put, List.setIfInBounds_toArray, List.set_cons_succ, List.set_cons_zero, List.getElem_toArray, List.getElem_cons_zero, List.getElem_cons_succ]
  refine hl_take ?v62 rfl (by kernel_rfl) ?y62 ?z62
  case y62 => intro W hW; skip; replace hW := Lib.hid hW; go_simp; try rfl
  case z62 =>
  simp only [Act.put, List.setIfInBounds_toArray, List.set_cons_succ, List.set_cons_zero, List.getElem_toArray, List.getElem_cons_zero, List.getElem_cons_succ]
  refine hl_one rfl (by kernel_rfl) (fun K hK => ?_)
  go_simp
  refine (K1.out _).mono ?_
  rintro e x1 ⟨rfl, b5⟩
  replace hS := Lib.hid (hS.out.below b5)
  clear b5
  refine hK.out _ _ hS.out ?_
  clear hK K
  try simp only [Act.put, List.setIfInBounds_toArray, List.set_cons_succ, List.set_cons_zero, List.getElem_toArray, List.getElem_cons_zero, List.getElem_cons_succ]
  refine hl_take ?v63 rfl (by kernel_rfl) ?y63 ?z63
  case y63 => intro W hW; skip; replace hW := Lib.hid hW; go_simp; try rfl
  case z63 =>
  simp only [Act.put, List.setIfInBounds_toArray, List.set_cons_succ, List.set_cons_zero, List.getElem_toArray, List.getElem_cons_zero, List.getElem_cons_succ]
  refine hl_take ?v64 rfl (by kernel_rfl) ?y64 ?z64
  case y64 => intro W hW; skip; replace hW := Lib.hid hW; go_simp; try rfl
  case z64 =>
  simp only [Act.put, List.setIfInBounds_toArray, List.set_cons_succ, List.set_cons_zero, List.getElem_toArray, List.getElem_cons_zero, List.getElem_cons_succ]
  refine hl_take ?v65 rfl (by kernel_rfl) ?y65 ?z65
  case y65 => intro W hW; skip; replace hW := Lib.hid hW; go_simp; try rfl
  case z65 =>
  simp only [Act.put, List.setIfInBounds_toArray, List.set_cons_succ, List.set_cons_zero, List.getElem_toArray, List.getElem_cons_zero, List.getElem_cons_succ]
  refine hl_one rfl (by kernel_rfl) (fun K hK => ?_)
  go_simp
  refine (rK_any 1 2 _).mono ?_
  rintro e x1 ⟨rfl, b5⟩
  replace hS := Lib.hid (hS.out.below b5)
  clear b5
  refine hK.out _ _ hS.out ?_
  clear hK K
  try simp only [Act.put, List.setIfInBounds_toArray, List.set_cons_succ, List.set_cons_zero, List.getElem_toArray, List.getElem_cons_zero, List.getElem_cons_succ]
  refine hl_one rfl (by kernel_rfl) (fun K hK => ?_)
  go_simp
  refine (tK_any 1 _).mono ?_
  rintro e x1 ⟨rfl, b5⟩
  replace hS := Lib.hid (hS.out.below b5)
  clear b5
  refine hK.out _ _ hS.out ?_
  clear hK K
  try simp only [Act.put, List.setIfInBounds_toArray, List.set_cons_succ, List.set_cons_zero, List.getElem_toArray, List.getElem_cons_zero, List.getElem_cons_succ]
  refine hl_one rfl (by kernel_rfl) (fun K hK => ?_)
  go_simp
  refine (U1.out _).mono ?_
  rintro e x1 ⟨rfl, b5⟩
  replace hS := Lib.hid (hS.out.below b5)
  clear b5
  refine hK.out _ _ hS.out ?_
  clear hK K
  try simp only [Act.put, List.setIfInBounds_toArray, List.set_cons_succ, List.set_cons_zero, List.getElem_toArray, List.getElem_cons_zero, List.getElem_cons_succ]
  refine hl_take ?v66 rfl (by kernel_rfl) ?y66 ?z66
  case y66 => intro W hW; skip; replace hW := Lib.hid hW; go_simp; try rfl
  case z66 =>
  simp only [Act.put, List.setIfInBounds_toArray, List.set_cons_succ, List.set_cons_zero, List.getElem_toArray, List.getElem_cons_zero, List.getElem_cons_succ]
  refine hl_take ?v67 rfl (by kernel_rfl) ?y67 ?z67
  case y67 => intro W hW; skip; replace hW := Lib.hid hW; go_simp; try rfl
  case z67 =>
  simp only [Act.put, List.setIfInBounds_toArray, List.set_cons_succ, List.set_cons_zero, List.getElem_toArray, List.getElem_cons_zero, List.getElem_cons_succ]
  refine hl_one rfl (by kernel_rfl) (fun K hK => ?_)
  go_simp
  refine (tK_any 1 _).mono ?_
  rintro e x1 ⟨rfl, b5⟩
  replace hS := Lib.hid (hS.out.below b5)
  clear b5
  refine hK.out _ _ hS.out ?_
  clear hK K
  try simp only [Act.put, List.setIfInBounds_toArray, List.set_cons_succ, List.set_cons_zero, List.getElem_toArray, List.getElem_cons_zero, List.getElem_cons_succ]
  refine hl_one rfl (by kernel_rfl) (fun K hK => ?_)
  go_simp
  refine (rK_any 1 2 _).mono ?_
  rintro e x1 ⟨rfl, b5⟩
  replace hS := Lib.hid (hS.out.below b5)
  clear b5
  refine hK.out _ _ hS.out ?_
  clear hK K
  try simp only [Act.put, List.setIfInBounds_toArray, List.set_cons_succ, List.set_cons_zero, List.getElem_toArray, List.getElem_cons_zero, List.getElem_cons_succ]
  refine hl_one rfl (by kernel_rfl) (fun K hK => ?_)
  go_simp
  refine (U2.out _).mono ?_
  rintro e x1 ⟨rfl, b5⟩
  replace hS := Lib.hid (hS.out.below b5)
  clear b5
  refine hK.out _ _ hS.out ?_
  clear hK K
  try simp only [Act.put, List.setIfInBounds_toArray, List.set_cons_succ, List.set_cons_zero, List.getElem_toArray, List.getElem_cons_zero, List.getElem_cons_succ]
  refine hl_take ?v68 rfl (by kernel_rfl) ?y68 ?z68
  case y68 => intro W hW; skip; replace hW := Lib.hid hW; go_simp; try rfl
  case z68 =>
  simp only [Act.put, List.setIfInBounds_toArray, List.set_cons_succ, List.set_cons_zero, List.getElem_toArray, List.getElem_cons_zero, List.getElem_cons_succ]
  refine hl_take ?v69 rfl (by kernel_rfl) ?y69 ?z69
  case y69 => intro W hW; skip; replace hW := Lib.hid hW; go_simp; try rfl
  case z69 =>
  simp only [Act.put, List.setIfInBounds_toArray, List.set_cons_succ, List.set_cons_zero, List.getElem_toArray, List.getElem_cons_zero, List.getElem_cons_succ]
  refine hl_take ?v70 rfl (by kernel_rfl) ?y70 ?z70
  case y70 => intro W hW; skip; replace hW := Lib.hid hW; go_simp; try rfl
  case z70 =>
  simp only [Act.put, List.setIfInBounds_toArray, List.set_cons_succ, List.set_cons_zero, List.getElem_toArray, List.getElem_cons_zero, List.getElem_cons_succ]
  refine hl_one rfl (by kernel_rfl) (fun K hK => ?_)
  go_simp
  refine (tK_any 1 _).mono ?_
  rintro e x1 ⟨rfl, b5⟩
  replace hS := Lib.hid (hS.out.below b5)
  clear b5
  refine hK.out _ _ hS.out ?_
  clear hK K
  try simp only [Act.put, List.setIfInBounds_toArray, List.set_cons_succ, List.set_cons_zero, List.getElem_toArray, List.getElem_cons_zero, List.getElem_cons_succ]
  refine hl_one rfl (by kernel_rfl) (fun K hK => ?_)
  go_simp
  refine (tK_any 1 _).mono ?_
  rintro e x1 ⟨rfl, b5⟩
  replace hS := Lib.hid (hS.out.below b5)
  clear b5
  refine hK.out _ _ hS.out ?_
  clear hK K
  try simp only [Act.put, List.setIfInBounds_toArray, List.set_cons_succ, List.set_cons_zero, List.getElem_toArray, List.getElem_cons_zero, List.getElem_cons_succ]
  refine hl_one rfl (by kernel_rfl) (fun K hK => ?_)
  go_simp
  refine (U3.out _).mono ?_
  rintro e x1 ⟨rfl, b5⟩
  replace hS := Lib.hid (hS.out.below b5)
  clear b5
  refine hK.out _ _ hS.out ?_
  clear hK K
  try simp only [Act.put, List.setIfInBounds_toArray, List.set_cons_succ, List.set_cons_zero, List.getElem_toArray, List.getElem_cons_zero, List.getElem_cons_succ]
  refine hl_take ?v71 rfl (by kernel_rfl) ?y71 ?z71
  case y71 => intro W hW; skip; replace hW := Lib.hid hW; go_simp; try rfl
  case z71 =>
  simp only [Act.put, List.setIfInBounds_toArray, List.set_cons_succ, List.set_cons_zero, List.getElem_toArray, List.getElem_cons_zero, List.getElem_cons_succ]
  refine hl_take ?v72 rfl (by kernel_rfl) ?y72 ?z72
  case y72 => intro W hW; skip; replace hW := Lib.hid hW; go_simp; try rfl
  case z72 =>
  simp only [Act.put, List.setIfInBounds_toArray, List.set_cons_succ, List.set_cons_zero, List.getElem_toArray, List.getElem_cons_zero, List.getElem_cons_succ]
  refine hl_one rfl (by kernel_rfl) (fun K hK => ?_)
  go_simp
  refine (tK_any 1 _).mono ?_
  rintro e x1 ⟨rfl, b5⟩
  replace hS := Lib.hid (hS.out.below b5)
  clear b5
  refine hK.out _ _ hS.out ?_
  clear hK K
  try simp only [Act.put, List.setIfInBounds_toArray, List.set_cons_succ, List.set_cons_zero, List.getElem_toArray, List.getElem_cons_zero, List.getElem_cons_succ]
  refine hl_one rfl (by kernel_rfl) (fun K hK => ?_)
  go_simp
  refine (rK_any 1 0 _).mono ?_
  rintro e x1 ⟨rfl, b5⟩
  replace hS := Lib.hid (hS.out.below b5)
  clear b5
  refine hK.out _ _ hS.out ?_
  clear hK K
  try simp only [Act.put, List.setIfInBounds_toArray, List.set_cons_succ, List.set_cons_zero, List.getElem_toArray, List.getElem_cons_zero, List.getElem_cons_succ]
  refine hl_one rfl (by kernel_rfl) (fun K hK => ?_)
  go_simp
  refine (M1.out _).mono ?_
  rintro e x1 ⟨rfl, b5⟩
  replace hS := Lib.hid (hS.out.below b5)
  clear b5
  refine hK.out _ _ hS.out ?_
  clear hK K
  try simp only [Act.put, List.setIfInBounds_toArray, List.set_cons_succ, List.set_cons_zero, List.getElem_toArray, List.getElem_cons_zero, List.getElem_cons_succ]
  refine hl_take ?v73 rfl (by kernel_rfl) ?y73 ?z73
  case y73 => intro W hW; skip; replace hW := Lib.hid hW; go_simp; try rfl
  case z73 =>
  simp only [Act.put, List.setIfInBounds_toArray, List.set_cons_succ, List.set_cons_zero, List.getElem_toArray, List.getElem_cons_zero, List.getElem_cons_succ]
  refine hl_take ?v74 rfl (by kernel_rfl) ?y74 ?z74
  case y74 => intro W hW; skip; replace hW := Lib.hid hW; go_simp; try rfl
  case z74 =>
  simp only [Act.put, List.setIfInBounds_toArray, List.set_cons_succ, List.set_cons_zero, List.getElem_toArray, List.getElem_cons_zero, List.getElem_cons_succ]
  refine hl_take ?v75 rfl (by kernel_rfl) ?y75 ?z75
  case y75 => intro W hW; skip; replace hW := Lib.hid hW; go_simp; try rfl
  case z75 =>
  simp only [Act.put, List.setIfInBounds_toArray, List.set_cons_succ, List.set_cons_zero, List.getElem_toArray, List.getElem_cons_zero, List.getElem_cons_succ]
  refine hl_take ?v76 rfl (by kernel_rfl) ?y76 ?z76
  case y76 => intro W hW; skip; replace hW := Lib.hid hW; go_simp; try rfl
  case z76 =>
  simp only [Act.put, List.setIfInBounds_toArray, List.set_cons_succ, List.set_cons_zero, List.getElem_toArray, List.getElem_cons_zero, List.getElem_cons_succ]
  refine hl_one rfl (by kernel_rfl) (fun K hK => ?_)
  go_simp
  refine (T1.out _).mono ?_
  rintro e x1 ⟨rfl, b5⟩
  replace hS := Lib.hid (hS.out.below b5)
  clear b5
  refine hK.out _ _ hS.out ?_
  clear hK K
  try simp only [Act.put, List.setIfInBounds_toArray, List.set_cons_succ, List.set_cons_zero, List.getElem_toArray, List.getElem_cons_zero, List.getElem_cons_succ]
  refine hl_take ?v77 rfl (by kernel_rfl) ?y77 ?z77
  case y77 => intro W hW; skip; replace hW := Lib.hid hW; go_simp; try rfl
  case z77 =>
  simp only [Act.put, List.setIfInBounds_toArray, List.set_cons_succ, List.set_cons_zero, List.getElem_toArray, List.getElem_cons_zero, List.getElem_cons_succ]
  refine hl_take ?v78 rfl (by kernel_rfl) ?y78 ?z78
  case y78 => intro W hW; skip; replace hW := Lib.hid hW; go_simp; try rfl
  case z78 =>
  simp only [Act.put, List.setIfInBounds_toArray, List.set_cons_succ, List.set_cons_zero, List.getElem_toArray, List.getElem_cons_zero, List.getElem_cons_succ]
  refine hl_take ?v79 rfl (by kernel_rfl) ?y79 ?z79
  case y79 => intro W hW; skip; replace hW := Lib.hid hW; go_simp; try rfl
  case z79 =>
  simp only [Act.put, List.setIfInBounds_toArray, List.set_cons_succ, List.set_cons_zero, List.getElem_toArray, List.getElem_cons_zero, List.getElem_cons_succ]
  refine hl_one rfl (by kernel_rfl) (fun K hK => ?_)
  go_simp
  refine (db_any _).mono ?_
  rintro e x1 ⟨rfl, b5⟩
  replace hS := Lib.hid (hS.out.below b5)
  clear b5
  refine hK.out _ _ hS.out ?_
  clear hK K
  try simp only [Act.put, List.setIfInBounds_toArray, List.set_cons_succ, List.set_cons_zero, List.getElem_toArray, List.getElem_cons_zero, List.getElem_cons_succ]
  refine hl_one rfl (by kernel_rfl) (fun K hK => ?_)
  go_simp
  refine (ancestors_any _ _ _).mono ?_
  rintro e x1 ⟨g, k, rfl, hk, hA⟩
  obtain rfl : k = 0 := by unfold AncK at hk; rw [show lv (-1) (-1) = 0 from rfl] at hk; simp at hk; omega
  replace hS := Lib.hid (hA.graft hS.out).tail
  clear hA hk
  refine hK.out _ _ hS.out ?_
  clear hK K
  try simp only [Act.put, List.setIfInBounds_toArray, List.set_cons_succ, List.set_cons_zero, List.getElem_toArray, List.getElem_cons_zero, List.getElem_cons_succ]
  refine hl_take ?v80 rfl (by kernel_rfl) ?y80 ?z80
  case y80 => intro W hW; skip; replace hW := Lib.hid hW; go_simp; try rfl
  case z80 =>
  simp only [Act.put, List.setIfInBounds_toArray, List.set_cons_succ, List.set_cons_zero, List.getElem_toArray, List.getElem_cons_zero, List.getElem_cons_succ]
  refine hl_take ?v81 rfl (by kernel_rfl) ?y81 ?z81
  case y81 => intro W hW; skip; replace hW := Lib.hid hW; go_simp; try rfl
  case z81 =>
  simp only [Act.put, List.setIfInBounds_toArray, List.set_cons_succ, List.set_cons_zero, List.getElem_toArray, List.getElem_cons_zero, List.getElem_cons_succ]
  refine hl_take ?v82 rfl (by kernel_rfl) ?y82 ?z82
  case y82 => intro W hW; skip; replace hW := Lib.hid hW; go_simp; try rfl
  case z82 =>
  simp only [Act.put, List.setIfInBounds_toArray, List.set_cons_succ, List.set_cons_zero, List.getElem_toArray, List.getElem_cons_zero, List.getElem_cons_succ]
  refine hl_take ?v83 rfl (by kernel_rfl) ?y83 ?z83
  case y83 => intro W hW; skip; replace hW := Lib.hid hW; go_simp; try rfl
  case z83 =>
  simp only [Act.put, List.setIfInBounds_toArray, List.set_cons_succ, List.set_cons_zero, List.getElem_toArray, List.getElem_cons_zero, List.getElem_cons_succ]
  refine hl_done ?_
  skip
  go_wp2_with fail
  go_ret
  exact ⟨rfl, hS.out.tail.tail.tail.gold⟩
end Go.Proofs.YtiaibmabmholaaaDoor
