/-
  The walk of HistorySpans. No condition beside an argument that can be read.
-/
import Derived.Test.YtechagciefhpbaaHPlB
namespace Go.Proofs.Ytechagciefhpbaa
open Go.RowKit
theorem belT {w w1 w2 : World} (h : Below w.heap.size w w1) (h' : Below w1.heap.size w1 w2) : Below w.heap.size w w2 := h.trans (h'.mono h.size)
set_option maxHeartbeats 2000000 in
theorem same_sp (u v : Value) (S : List Sp) (w : World) (hu : RL w u 10 S.length (scells S)) (hv : RL w v 10 S.length (scells S)) (hl : S.length ≤ 1000) :
    Calls Try.prog 12 #[u, v] w fun e w' => e = .returned (.bool true) ∧ ∃ m, w' = w.drewN m := by
  obtain ⟨n, hn⟩ : ∃ n, Hid (S.length = n) := ⟨_, rfl⟩
  rw [hn.out] at hu hv hl
  have hu2 := hu
  have hv2 := hv
  obtain ⟨_, a, c, rfl, _⟩ := hu
  obtain ⟨_, a', c', rfl, _⟩ := hv
  replace hu2 := Lib.hid hu2
  replace hv2 := Lib.hid hv2
  go_enter Try.func12, Try.ntmps12
  go_wp2
  go_loopw [5] (fun i w1 => ∃ k : Nat, k ≤ n ∧ i = .int .i64 k ∧ ∃ m, w1 = w.drewN m) (fun i _ => n - (intOf i).toNat)
  case atStart => exact ⟨0, Nat.zero_le _, rfl, 0, rfl⟩
  case round =>
    obtain ⟨k, hk, rfl, m, rfl⟩ := hrel
    by_cases hlt : k < n
    · obtain ⟨s, hs⟩ : ∃ s, S[k]? = some s := ⟨S[k]'(by rw [hn.out]; exact hlt), List.getElem?_eq_getElem _⟩
      obtain ⟨b, off, rfl, _, hz⟩ := sp_cells hu2.out hn.out (by omega)
      obtain ⟨b', off', rfl, _, hz'⟩ := sp_cells hv2.out hn.out (by omega)
      obtain ⟨x0, x1, x2, x3, x4, x5, x6, x7, x8, x9⟩ := hz k s hs
      obtain ⟨y0, y1, y2, y3, y4, y5, y6, y7, y8, y9⟩ := hz' k s hs
      clear hz hz' hs
      have i1 : (0 : Int) ≤ (k : Int) := by omega
      have i2 : (k : Int) < (n : Int) := by omega
      have hq := fun W => run_neq_span s.call s.call s.thread s.thread s.from_ s.from_ s.to s.to s.act.kind s.act.kind s.act.txn s.act.txn s.act.t s.act.t s.act.r s.act.r s.act.mode s.act.mode s.act.code s.act.code W
      have he : eqB_span s.call s.call s.thread s.thread s.from_ s.from_ s.to s.to s.act.kind s.act.kind s.act.txn s.act.txn s.act.t s.act.t s.act.r s.act.r s.act.mode s.act.mode s.act.code s.act.code = true := by rw [eqB_span_iff]; simp
      simp only [he, Bool.not_true] at hq
      clear he
      go_wp2_with fail
      go_quiet (fail)
      go_wp2_with fail
      go_roundw
      case rel => exact ⟨k+1, by omega, by go_num, _, rfl⟩
      case measure => simp [intOf]; omega
    · go_wp2
      go_ret
      exact ⟨rfl, _, rfl⟩
theorem rl_takeE {w : World} {a : Option Addr} {n c k : Nat} {l : List Ev} (h : RL w (.slice a n c) 9 n (ecells l)) (hn : l.length = n) (hk : k ≤ n) : RL w (.slice a k c) 9 (l.take k).length (ecells (l.take k)) := by
  have hkl : (l.take k).length = k := by rw [List.length_take]; omega
  rw [hkl]
  obtain ⟨hl, a', c', hv, hc, hna, hr⟩ := h
  injection hv with e1 _ e3
  subst e1 e3
  refine ⟨by unfold ecells; rw [flat_len Ev.cells 9 ev_len, hkl], a, c, rfl, by omega, hna, fun h0 => ?_⟩
  obtain ⟨b, off, ha, hb, hz⟩ := hr (by omega)
  refine ⟨b, off, ha, hb, fun j u hu => hz j u ?_⟩
  unfold ecells at hu ⊢
  rw [← flat_take Ev.cells 9 ev_len l k (by omega), List.getElem?_take] at hu
  split at hu
  · exact hu
  · cases hu
theorem closed_snoc {S : List Sp} {k : Nat} {s : Sp} (h : S[k]? = some s) : closedN (S.take (k + 1)) = closedN (S.take k) + if opens s then 0 else 1 := by
  rw [take_snoc_get h]
  unfold closedN
  rw [List.countP_append]
  cases ho : opens s <;> simp [ho]
theorem b10 {w : World} {g : Nat} {t : TypeId} {x0 x1 x2 x3 x4 x5 x6 x7 x8 x9 : Value} {rs : List Res} (h : Sep w (blk g t #[x0, x1, x2, x3, x4, x5, x6, x7, x8, x9] :: rs)) :
    g < w.heap.size ∧ w.cell? ⟨g, 0, none⟩ = some x0 ∧ w.cell? ⟨g, 1, none⟩ = some x1 ∧ w.cell? ⟨g, 2, none⟩ = some x2 ∧ w.cell? ⟨g, 3, none⟩ = some x3 ∧ w.cell? ⟨g, 4, none⟩ = some x4 ∧ w.cell? ⟨g, 5, none⟩ = some x5 ∧ w.cell? ⟨g, 6, none⟩ = some x6 ∧ w.cell? ⟨g, 7, none⟩ = some x7 ∧ w.cell? ⟨g, 8, none⟩ = some x8 ∧ w.cell? ⟨g, 9, none⟩ = some x9 ∧ True :=
  ⟨h.gblk.lt, h.gblk.cell 0, h.gblk.cell 1, h.gblk.cell 2, h.gblk.cell 3, h.gblk.cell 4, h.gblk.cell 5, h.gblk.cell 6, h.gblk.cell 7, h.gblk.cell 8, h.gblk.cell 9, trivial⟩
theorem sp10 {S : List Sp} {q : Nat} {s : Sp} (h : S[q]? = some s) : (scells S)[q * 10]? = some (.int .i64 s.call) ∧ (scells S)[q * 10 + 1]? = some (.int .i64 s.thread) ∧ (scells S)[q * 10 + 2]? = some (.int .i64 s.from_) ∧ (scells S)[q * 10 + 3]? = some (.int .i64 s.to) ∧ (scells S)[q * 10 + 4]? = some (.int .i64 s.act.kind) ∧ (scells S)[q * 10 + 5]? = some (.int .i64 s.act.txn) ∧ (scells S)[q * 10 + 6]? = some (.int .i64 s.act.t) ∧ (scells S)[q * 10 + 7]? = some (.int .i64 s.act.r) ∧ (scells S)[q * 10 + 8]? = some (.int .i64 s.act.mode) ∧ (scells S)[q * 10 + 9]? = some (.int .i64 s.act.code) :=
  ⟨(scells_at h 0 (by omega)), (scells_at h 1 (by omega)), (scells_at h 2 (by omega)), (scells_at h 3 (by omega)), (scells_at h 4 (by omega)), (scells_at h 5 (by omega)), (scells_at h 6 (by omega)), (scells_at h 7 (by omega)), (scells_at h 8 (by omega)), (scells_at h 9 (by omega))⟩
set_option maxHeartbeats 20000000 in
set_option maxRecDepth 100000 in
theorem spans_walk (a : Option Addr) (len cap : Nat) (l : List Ev) (w : World) (hv : RL w (.slice a len cap) 9 len (ecells l)) (hn : l.length = len) :
    Calls Try.prog 4 #[.slice a len cap] w fun e w' => e = .returned (.bool true) ∧ Below w.heap.size w w' := by
  by_cases h60 : len ≤ 60
  · have i60 : ¬ ((len : Int) > 60) := by omega
    have hlen : l.length ≤ 1000 := by omega
    have hvn : RL w (.slice a len cap) 9 l.length (ecells l) := by rw [hn]; exact hv
    have HC := Lib.hid (fun W hb => check_any (.slice a len cap) l W (hvn.below hb) hlen)
    have HS := Lib.hid (fun W hb => spans_any (.slice a len cap) l W (hvn.below hb) hlen)
    by_cases hR2 : (walkS l 0 []).2.2 = 0
    · obtain ⟨hR, hH⟩ := hist_of hR2
      obtain ⟨hc1, hc2, hc3⟩ := compl_valid hR2
      have hpc := pend_count (walkS l 0 []).1
      have HM := Lib.hid (fun W hb => complete_any (.slice a len cap) l W (hvn.below hb) hlen)
      have HP := Lib.hid (fun W hb => pendings_any (.slice a len cap) l W (hvn.below hb) hlen)
      have hcl := compl_len (walkS l 0 []).1 l 0
      rw [hR] at HC
      obtain ⟨S, hS0⟩ : ∃ S, (walkS l 0 []).1 = S := ⟨_, rfl⟩
      simp only [hS0] at HC HS HM HP
      rw [hS0] at hH hc1 hc2 hc3 hpc hcl
      obtain ⟨c, hc0⟩ : ∃ c, complE S l 0 = c := ⟨_, rfl⟩
      simp only [hc0] at HM
      rw [hc0] at hc1 hc2 hc3 hcl
      clear hR hR2 hS0 hc0
      obtain ⟨n, hnS⟩ : ∃ n, Hid (S.length = n) := ⟨_, rfl⟩
      simp only [hnS.out] at HS
      replace HC := Lib.hid HC.out
      replace HS := Lib.hid HS.out
      replace HM := Lib.hid HM.out
      replace HP := Lib.hid HP.out
      have hcnt := hH.count
      rw [hnS.out] at hcnt hpc
      have hn60 : n ≤ 60 := by omega
      have HCc := Lib.hid (fun v W hv => check_any v c W hv (by omega))
      have HPc := Lib.hid (fun v W hv => pendings_any v c W hv (by omega))
      obtain ⟨hRc, _⟩ := hist_of hc1
      rw [hRc] at HCc
      simp only [hc2] at HPc
      replace HCc := Lib.hid HCc.out
      replace HPc := Lib.hid HPc.out
      clear hRc hc1 hc2
      have hfacts := Lib.hid (show n + closedN S = len ∧ (pendC S).length + closedN S = n ∧ c.length = 2 * closedN S from ⟨by omega, hpc, hc3⟩)
      have hH2 := Lib.hid hH
      have hv2 := Lib.hid hv
      replace hn := Lib.hid hn
      clear hv hvn hcnt hpc hc3 hcl hH h60
      go_enter Try.func4, Try.ntmps4
      go_wp2_with fail
      refine (lives_any _).mono ?_
      rintro e w1 ⟨rfl, q⟩
      have hb1 := Lib.hid q
      clear q
      go_wp2_with fail
      refine (HC.out _ hb1.out).mono ?_
      rintro e w2 ⟨rfl, q⟩
      replace hb1 := Lib.hid (belT hb1.out q)
      have hA := Lib.hid ((Sep.start w).below hb1.out)
      clear q HC
      go_wp2_with fail
      refine (HS.out _ hb1.out).mono ?_
      rintro e w3 ⟨sa, sc, rfl, q⟩
      have hV0 := Lib.hid (q.graft hA.out)
      clear q HS hb1 hA
      go_wp2_with fail
      go_loopw [8, 9] (fun v x wr => ∃ (i m : Nat), i ≤ n ∧ v = .int .i64 m ∧ x = .int .i64 i ∧ Hid (closedN (S.take i) = m) ∧ m ≤ i ∧ Hid (Sep wr [vec 36 10 (.slice sa n sc) n (scells S), old w])) (fun _ x _ => n - (intOf x).toNat)
      case atStart => exact ⟨0, 0, Nat.zero_le _, rfl, rfl, Lib.hid rfl, Nat.le_refl _, hV0⟩
      case round =>
        clear hV0
        obtain ⟨i, m, hi, rfl, rfl, hcl, hmi, hV⟩ := hrel
        by_cases hlt : i < n
        · obtain ⟨g, rfl⟩ : ∃ g, sa = some ⟨g, 0, none⟩ := by
            rcases hV.out.gvec.2 with ⟨_, h1⟩ | ⟨g, cap, cur, hv, _⟩
            · omega
            · injection hv with e1 _ _
              exact ⟨g, e1⟩
          obtain ⟨s, hs⟩ : ∃ s, S[i]? = some s := ⟨S[i]'(by rw [hnS.out]; exact hlt), List.getElem?_eq_getElem _⟩
          obtain ⟨z0, z1, z2, z3, z4, z5, z6, z7, z8, z9⟩ := sp10 hs
          have hm := List.mem_of_getElem? hs
          have hat := Lib.hid (hH2.out.fine.at_ s hm)
          have hends := Lib.hid (hH2.out.ends s hm)
          obtain ⟨e, he, hei, hec, hed⟩ := hH2.out.begins s hm
          have hcl0 := Lib.hid (closed_snoc hs)
          have hapart : Hid (∀ k u, k < i → S[k]? = some u → u.thread = s.thread → befB u s = true) := by
            refine Lib.hid fun k u hk hu => ?_
            obtain ⟨k1, k2⟩ := List.getElem?_eq_some_iff.1 hu
            obtain ⟨i1, i2⟩ := List.getElem?_eq_some_iff.1 hs
            have := List.pairwise_iff_getElem.1 hH2.out.apart k i k1 i1 hk
            rw [k2, i2] at this
            exact this
          have hup : Hid (∀ u, 0 < i → S[i - 1]? = some u → u.from_ < s.from_) := by
            refine Lib.hid fun u hk hu => ?_
            obtain ⟨k1, k2⟩ := List.getElem?_eq_some_iff.1 hu
            obtain ⟨i1, i2⟩ := List.getElem?_eq_some_iff.1 hs
            have := List.pairwise_iff_getElem.1 hH2.out.fine.up (i - 1) i k1 i1 (by omega)
            rw [k2, i2] at this
            exact this
          obtain ⟨b, off, rfl, hbl, hz⟩ := ev_cells hv2.out hn.out (by have := hat.out; have := hn.out; omega)
          replace hz := Lib.hid hz
          clear hs hm
          obtain ⟨call, thread, from_, to_, ⟨kind, txn, t_, r_, mode, code⟩⟩ := s
          obtain ⟨f, rfl⟩ := Int.eq_ofNat_of_zero_le hat.out.1
          simp only [Int.toNat_natCast] at he hec hed z0 z1 z2 z3 z4 z5 z6 z7 z8 z9
          have hf0 : (0 : Int) ≤ (f : Int) := by omega
          have hfl : (f : Int) < (len : Int) := by have := hat.out.2.1; have h2 := hn.out; (try simp only at this); omega
          have q1 : decide (len ≤ f) = false := decide_eq_false (by omega)
          have hef := Lib.hid (hz.out f e he)
          simp only [hei, hec, hed] at hef
          replace hef := Lib.hid hef.out
          replace z0 := (hV.out.vec_cell z0).1
          replace z1 := (hV.out.vec_cell z1).1
          replace z2 := (hV.out.vec_cell z2).1
          replace z3 := (hV.out.vec_cell z3).1
          replace z4 := (hV.out.vec_cell z4).1
          replace z5 := (hV.out.vec_cell z5).1
          replace z6 := (hV.out.vec_cell z6).1
          replace z7 := (hV.out.vec_cell z7).1
          replace z8 := (hV.out.vec_cell z8).1
          replace z9 := (hV.out.vec_cell z9).1
          have i1 : (0 : Int) ≤ (i : Int) := by omega
          have i2 : (i : Int) < (n : Int) := by omega
          clear he hei hec hed
          have hB := Lib.hid (hV.out.alloc #[.int .i64 call, .int .i64 thread, .int .i64 (f : Int), .int .i64 to_, .int .i64 kind, .int .i64 txn, .int .i64 t_, .int .i64 r_, .int .i64 mode, .int .i64 code] 36)
          clear hV
          by_cases hi0 : i = 0
          · have hig : decide ((0 : Int) < (i : Int)) = false := decide_eq_false (by omega)
            have hig2 : decide (0 < i) = false := decide_eq_false (by omega)
            clear hi0
            go_wp2_with fail
            generalize wr.heap.size = xb at *
            clear z0 z1 z2 z3 z4 z5 z6 z7 z8 z9
            have hS := Lib.hid (show (fun W : World => Sep W [blk xb 36 #[.int .i64 call, .int .i64 thread, .int .i64 (f : Int), .int .i64 to_, .int .i64 kind, .int .i64 txn, .int .i64 t_, .int .i64 r_, .int .i64 mode, .int .i64 code], vec 36 10 (.slice (some ⟨g, 0, none⟩) n sc) n (scells S), old w]) _ from hB.out.drew)
            try dsimp only [List.append]
            refine hl_begin_n (fun W : World => Sep W [blk xb 36 #[.int .i64 call, .int .i64 thread, .int .i64 (f : Int), .int .i64 to_, .int .i64 kind, .int .i64 txn, .int .i64 t_, .int .i64 r_, .int .i64 mode, .int .i64 code], vec 36 10 (.slice (some ⟨g, 0, none⟩) n sc) n (scells S), old w]) ((0, true) :: (1, true) :: (2, true) :: (3, true) :: (4, true) :: (5, true) :: (6, true) :: (7, true) :: (8, true) :: (9, true) :: (10, true) :: (11, true) :: (12, true) :: (13, true) :: (14, true) :: (15, true) :: (16, true) :: (17, true) :: (18, true) :: (19, true) :: (20, true) :: (21, true) :: (22, true) :: (23, true) :: (24, true) :: (25, true) :: (26, true) :: (27, true) :: (28, true) :: (29, true) :: (30, true) :: (31, true) :: (32, true) :: (33, true) :: (34, true) :: (35, true) :: (36, true) :: (37, true) :: (38, true) :: (39, true) :: (40, true) :: (41, true) :: (42, true) :: (43, true) :: (44, true) :: (45, true) :: (46, true) :: (47, true) :: (48, true) :: (49, true) :: (50, true) :: (51, true) :: (52, true) :: (53, true) :: (54, true) :: (55, true) :: []) (([], [10], 65) :: ([0], [64], 66) :: ([1], [65], 67) :: ([2], [66], 68) :: ([3], [10, 67], 69) :: ([4, 3], [68, 67], 70) :: ([3], [0, 67], 71) :: ([6, 3], [70, 67], 72) :: ([5, 7, 3], [69, 71, 67], 73) :: ([3, 8], [67, 72], 74) :: ([9, 3], [73], 75) :: ([10], [0, 74], 76) :: ([10], [10, 74], 77) :: ([12, 10], [76, 74], 78) :: ([11, 13, 10], [75, 77, 74], 79) :: ([14, 10], [78, 74], 80) :: ([15, 10], [79, 74], 81) :: ([16, 10], [80, 74], 82) :: ([10, 17], [74, 81], 83) :: ([18, 10], [82], 84) :: ([19], [0, 83], 85) :: ([19], [10, 83], 86) :: ([21, 19], [85, 83], 87) :: ([20, 22, 19], [84, 86, 83], 88) :: ([23, 19], [87, 83], 89) :: ([24, 19], [88, 83], 90) :: ([19], [10, 83], 91) :: ([26, 19], [90, 83], 92) :: ([25, 27, 19], [89, 91, 83], 93) :: ([19, 28], [83, 92], 94) :: ([29, 19], [93], 95) :: ([30], [0, 94], 96) :: ([30], [10, 94], 97) :: ([32, 30], [96, 94], 98) :: ([31, 33, 30], [95, 97, 94], 99) :: ([34, 30], [98, 94], 100) :: ([35, 30], [99, 94], 101) :: ([30], [10, 94], 102) :: ([37, 30], [101, 94], 103) :: ([36, 38, 30], [100, 102, 94], 104) :: ([30, 39], [94, 103], 105) :: ([40, 30], [104], 106) :: ([41], [9, 105], 107) :: ([42, 41], [106, 105], 108) :: ([43, 41, 41], [107, 105], 109) :: ([44], [5, 108], 110) :: ([44], [9, 108], 111) :: ([46, 44], [110, 108], 112) :: ([45, 47, 44], [109, 111, 108], 113) :: ([48, 44], [112, 108], 114) :: ([49, 44], [113, 108], 115) :: ([44], [10, 108], 116) :: ([51, 44], [115, 108], 117) :: ([50, 52, 44], [114, 116, 108], 118) :: ([44, 53, 41], [108, 117, 105], 119) :: ([41, 54], [105, 118], 120) :: []) (by kernel_rfl) (by kernel_rfl) (by kernel_rfl) (by kernel_rfl) rfl (by intro _ _ _ _ _ h; exact h) hS.out ?_
            change HL _ _ _ _ _ _ (World.drew _)
            generalize World.drew _ = wd at *
            refine hl_take ?v1 rfl (by kernel_rfl) ?y1 ?z1
            case y1 => intro W hW; skip; replace hW := Lib.hid hW; go_simp; try rfl
            case z1 =>
            simp only [Act.put, List.setIfInBounds_toArray, List.set_cons_succ, List.set_cons_zero, List.getElem_toArray, List.getElem_cons_zero, List.getElem_cons_succ]
            refine hl_take ?v2 rfl (by kernel_rfl) ?y2 ?z2
            case y2 => intro W hW; change Sep W _ at hW; obtain ⟨_, x0, x1, x2, x3, x4, x5, x6, x7, x8, x9, _⟩ := b10 hW; obtain ⟨y0, y1, y2, y3, y4, y5, y6, y7, y8⟩ := hef.out; replace y0 := (hW.to2.gold.cell (p := ⟨b, off + f * 9, none⟩) hbl).trans y0; replace y1 := (hW.to2.gold.cell (p := ⟨b, off + f * 9 + 1, none⟩) hbl).trans y1; replace y2 := (hW.to2.gold.cell (p := ⟨b, off + f * 9 + 2, none⟩) hbl).trans y2; replace y3 := (hW.to2.gold.cell (p := ⟨b, off + f * 9 + 3, none⟩) hbl).trans y3; replace y4 := (hW.to2.gold.cell (p := ⟨b, off + f * 9 + 4, none⟩) hbl).trans y4; replace y5 := (hW.to2.gold.cell (p := ⟨b, off + f * 9 + 5, none⟩) hbl).trans y5; replace y6 := (hW.to2.gold.cell (p := ⟨b, off + f * 9 + 6, none⟩) hbl).trans y6; replace y7 := (hW.to2.gold.cell (p := ⟨b, off + f * 9 + 7, none⟩) hbl).trans y7; replace y8 := (hW.to2.gold.cell (p := ⟨b, off + f * 9 + 8, none⟩) hbl).trans y8; replace hW := Lib.hid hW; go_simp; try rfl
            case z2 =>
            simp only [Act.put, List.setIfInBounds_toArray, List.set_cons_succ, List.set_cons_zero, List.getElem_toArray, List.getElem_cons_zero, List.getElem_cons_succ]
            refine hl_take ?v3 rfl (by kernel_rfl) ?y3 ?z3
            case y3 => intro W hW; skip; replace hW := Lib.hid hW; go_simp; try rfl
            case z3 =>
            simp only [Act.put, List.setIfInBounds_toArray, List.set_cons_succ, List.set_cons_zero, List.getElem_toArray, List.getElem_cons_zero, List.getElem_cons_succ]
            refine hl_take ?v4 rfl (by kernel_rfl) ?y4 ?z4
            case y4 => intro W hW; skip; replace hW := Lib.hid hW; go_simp; try rfl
            case z4 =>
            simp only [Act.put, List.setIfInBounds_toArray, List.set_cons_succ, List.set_cons_zero, List.getElem_toArray, List.getElem_cons_zero, List.getElem_cons_succ]
            refine hl_take ?v5 rfl (by kernel_rfl) ?y5 ?z5
            case y5 => intro W hW; skip; replace hW := Lib.hid hW; go_simp; try rfl
            case z5 =>
            simp only [Act.put, List.setIfInBounds_toArray, List.set_cons_succ, List.set_cons_zero, List.getElem_toArray, List.getElem_cons_zero, List.getElem_cons_succ]
            refine hl_take ?v6 rfl (by kernel_rfl) ?y6 ?z6
            case y6 => intro W hW; change Sep W _ at hW; obtain ⟨_, x0, x1, x2, x3, x4, x5, x6, x7, x8, x9, _⟩ := b10 hW; obtain ⟨y0, y1, y2, y3, y4, y5, y6, y7, y8⟩ := hef.out; replace y0 := (hW.to2.gold.cell (p := ⟨b, off + f * 9, none⟩) hbl).trans y0; replace y1 := (hW.to2.gold.cell (p := ⟨b, off + f * 9 + 1, none⟩) hbl).trans y1; replace y2 := (hW.to2.gold.cell (p := ⟨b, off + f * 9 + 2, none⟩) hbl).trans y2; replace y3 := (hW.to2.gold.cell (p := ⟨b, off + f * 9 + 3, none⟩) hbl).trans y3; replace y4 := (hW.to2.gold.cell (p := ⟨b, off + f * 9 + 4, none⟩) hbl).trans y4; replace y5 := (hW.to2.gold.cell (p := ⟨b, off + f * 9 + 5, none⟩) hbl).trans y5; replace y6 := (hW.to2.gold.cell (p := ⟨b, off + f * 9 + 6, none⟩) hbl).trans y6; replace y7 := (hW.to2.gold.cell (p := ⟨b, off + f * 9 + 7, none⟩) hbl).trans y7; replace y8 := (hW.to2.gold.cell (p := ⟨b, off + f * 9 + 8, none⟩) hbl).trans y8; replace hW := Lib.hid hW; go_simp; try rfl
            case z6 =>
            simp only [Act.put, List.setIfInBounds_toArray, List.set_cons_succ, List.set_cons_zero, List.getElem_toArray, List.getElem_cons_zero, List.getElem_cons_succ]
            refine hl_take ?v7 rfl (by kernel_rfl) ?y7 ?z7
            case y7 => intro W hW; skip; replace hW := Lib.hid hW; go_simp; try rfl
            case z7 =>
            simp only [Act.put, List.setIfInBounds_toArray, List.set_cons_succ, List.set_cons_zero, List.getElem_toArray, List.getElem_cons_zero, List.getElem_cons_succ]
            refine hl_take ?v8 rfl (by kernel_rfl) ?y8 ?z8
            case y8 => intro W hW; skip; replace hW := Lib.hid hW; go_simp; try rfl
            case z8 =>
            simp only [Act.put, List.setIfInBounds_toArray, List.set_cons_succ, List.set_cons_zero, List.getElem_toArray, List.getElem_cons_zero, List.getElem_cons_succ]
            refine hl_take ?v9 rfl (by kernel_rfl) ?y9 ?z9
            case y9 => intro W hW; skip; replace hW := Lib.hid hW; go_simp; try rfl
            case z9 =>
            simp only [Act.put, List.setIfInBounds_toArray, List.set_cons_succ, List.set_cons_zero, List.getElem_toArray, List.getElem_cons_zero, List.getElem_cons_succ]
            refine hl_take ?v10 rfl (by kernel_rfl) ?y10 ?z10
            case y10 => intro W hW; skip; replace hW := Lib.hid hW; go_simp; try rfl
            case z10 =>
            simp only [Act.put, List.setIfInBounds_toArray, List.set_cons_succ, List.set_cons_zero, List.getElem_toArray, List.getElem_cons_zero, List.getElem_cons_succ]
            refine hl_take ?v11 rfl (by kernel_rfl) ?y11 ?z11
            case y11 => intro W hW; skip; replace hW := Lib.hid hW; go_simp; try rfl
            case z11 =>
            simp only [Act.put, List.setIfInBounds_toArray, List.set_cons_succ, List.set_cons_zero, List.getElem_toArray, List.getElem_cons_zero, List.getElem_cons_succ]
            refine hl_take ?v12 rfl (by kernel_rfl) ?y12 ?z12
            case y12 => intro W hW; skip; replace hW := Lib.hid hW; go_simp; try rfl
            case z12 =>
            simp only [Act.put, List.setIfInBounds_toArray, List.set_cons_succ, List.set_cons_zero, List.getElem_toArray, List.getElem_cons_zero, List.getElem_cons_succ]
            refine hl_take ?v13 rfl (by kernel_rfl) ?y13 ?z13
            case y13 => intro W hW; skip; replace hW := Lib.hid hW; go_simp; try rfl
            case z13 =>
            simp only [Act.put, List.setIfInBounds_toArray, List.set_cons_succ, List.set_cons_zero, List.getElem_toArray, List.getElem_cons_zero, List.getElem_cons_succ]
            refine hl_take ?v14 rfl (by kernel_rfl) ?y14 ?z14
            case y14 => intro W hW; change Sep W _ at hW; obtain ⟨_, x0, x1, x2, x3, x4, x5, x6, x7, x8, x9, _⟩ := b10 hW; obtain ⟨y0, y1, y2, y3, y4, y5, y6, y7, y8⟩ := hef.out; replace y0 := (hW.to2.gold.cell (p := ⟨b, off + f * 9, none⟩) hbl).trans y0; replace y1 := (hW.to2.gold.cell (p := ⟨b, off + f * 9 + 1, none⟩) hbl).trans y1; replace y2 := (hW.to2.gold.cell (p := ⟨b, off + f * 9 + 2, none⟩) hbl).trans y2; replace y3 := (hW.to2.gold.cell (p := ⟨b, off + f * 9 + 3, none⟩) hbl).trans y3; replace y4 := (hW.to2.gold.cell (p := ⟨b, off + f * 9 + 4, none⟩) hbl).trans y4; replace y5 := (hW.to2.gold.cell (p := ⟨b, off + f * 9 + 5, none⟩) hbl).trans y5; replace y6 := (hW.to2.gold.cell (p := ⟨b, off + f * 9 + 6, none⟩) hbl).trans y6; replace y7 := (hW.to2.gold.cell (p := ⟨b, off + f * 9 + 7, none⟩) hbl).trans y7; replace y8 := (hW.to2.gold.cell (p := ⟨b, off + f * 9 + 8, none⟩) hbl).trans y8; replace hW := Lib.hid hW; go_simp; try rfl
            case z14 =>
            simp only [Act.put, List.setIfInBounds_toArray, List.set_cons_succ, List.set_cons_zero, List.getElem_toArray, List.getElem_cons_zero, List.getElem_cons_succ]
            refine hl_take ?v15 rfl (by kernel_rfl) ?y15 ?z15
            case y15 => intro W hW; skip; replace hW := Lib.hid hW; go_simp; try rfl
            case z15 =>
            simp only [Act.put, List.setIfInBounds_toArray, List.set_cons_succ, List.set_cons_zero, List.getElem_toArray, List.getElem_cons_zero, List.getElem_cons_succ]
            refine hl_take ?v16 rfl (by kernel_rfl) ?y16 ?z16
            case y16 => intro W hW; skip; replace hW := Lib.hid hW; go_simp; try rfl
            case z16 =>
            simp only [Act.put, List.setIfInBounds_toArray, List.set_cons_succ, List.set_cons_zero, List.getElem_toArray, List.getElem_cons_zero, List.getElem_cons_succ]
            refine hl_take ?v17 rfl (by kernel_rfl) ?y17 ?z17
            case y17 => intro W hW; change Sep W _ at hW; obtain ⟨_, x0, x1, x2, x3, x4, x5, x6, x7, x8, x9, _⟩ := b10 hW; obtain ⟨y0, y1, y2, y3, y4, y5, y6, y7, y8⟩ := hef.out; replace y0 := (hW.to2.gold.cell (p := ⟨b, off + f * 9, none⟩) hbl).trans y0; replace y1 := (hW.to2.gold.cell (p := ⟨b, off + f * 9 + 1, none⟩) hbl).trans y1; replace y2 := (hW.to2.gold.cell (p := ⟨b, off + f * 9 + 2, none⟩) hbl).trans y2; replace y3 := (hW.to2.gold.cell (p := ⟨b, off + f * 9 + 3, none⟩) hbl).trans y3; replace y4 := (hW.to2.gold.cell (p := ⟨b, off + f * 9 + 4, none⟩) hbl).trans y4; replace y5 := (hW.to2.gold.cell (p := ⟨b, off + f * 9 + 5, none⟩) hbl).trans y5; replace y6 := (hW.to2.gold.cell (p := ⟨b, off + f * 9 + 6, none⟩) hbl).trans y6; replace y7 := (hW.to2.gold.cell (p := ⟨b, off + f * 9 + 7, none⟩) hbl).trans y7; replace y8 := (hW.to2.gold.cell (p := ⟨b, off + f * 9 + 8, none⟩) hbl).trans y8; replace hW := Lib.hid hW; go_simp; try rfl
            case z17 =>
            simp only [Act.put, List.setIfInBounds_toArray, List.set_cons_succ, List.set_cons_zero, List.getElem_toArray, List.getElem_cons_zero, List.getElem_cons_succ]
            refine hl_take ?v18 rfl (by kernel_rfl) ?y18 ?z18
            case y18 => intro W hW; skip; replace hW := Lib.hid hW; go_simp; try rfl
            case z18 =>
            simp only [Act.put, List.setIfInBounds_toArray, List.set_cons_succ, List.set_cons_zero, List.getElem_toArray, List.getElem_cons_zero, List.getElem_cons_succ]
            refine hl_take ?v19 rfl (by kernel_rfl) ?y19 ?z19
            case y19 => intro W hW; skip; replace hW := Lib.hid hW; go_simp; try rfl
            case z19 =>
            simp only [Act.put, List.setIfInBounds_toArray, List.set_cons_succ, List.set_cons_zero, List.getElem_toArray, List.getElem_cons_zero, List.getElem_cons_succ]
            refine hl_take ?v20 rfl (by kernel_rfl) ?y20 ?z20
            case y20 => intro W hW; skip; replace hW := Lib.hid hW; go_simp; try rfl
            case z20 =>
            simp only [Act.put, List.setIfInBounds_toArray, List.set_cons_succ, List.set_cons_zero, List.getElem_toArray, List.getElem_cons_zero, List.getElem_cons_succ]
            refine hl_take ?v21 rfl (by kernel_rfl) ?y21 ?z21
            case y21 => intro W hW; skip; replace hW := Lib.hid hW; go_simp; try rfl
            case z21 =>
            simp only [Act.put, List.setIfInBounds_toArray, List.set_cons_succ, List.set_cons_zero, List.getElem_toArray, List.getElem_cons_zero, List.getElem_cons_succ]
            refine hl_take ?v22 rfl (by kernel_rfl) ?y22 ?z22
            case y22 => intro W hW; skip; replace hW := Lib.hid hW; go_simp; try rfl
            case z22 =>
            simp only [Act.put, List.setIfInBounds_toArray, List.set_cons_succ, List.set_cons_zero, List.getElem_toArray, List.getElem_cons_zero, List.getElem_cons_succ]
            refine hl_take ?v23 rfl (by kernel_rfl) ?y23 ?z23
            case y23 => intro W hW; change Sep W _ at hW; obtain ⟨_, x0, x1, x2, x3, x4, x5, x6, x7, x8, x9, _⟩ := b10 hW; obtain ⟨y0, y1, y2, y3, y4, y5, y6, y7, y8⟩ := hef.out; replace y0 := (hW.to2.gold.cell (p := ⟨b, off + f * 9, none⟩) hbl).trans y0; replace y1 := (hW.to2.gold.cell (p := ⟨b, off + f * 9 + 1, none⟩) hbl).trans y1; replace y2 := (hW.to2.gold.cell (p := ⟨b, off + f * 9 + 2, none⟩) hbl).trans y2; replace y3 := (hW.to2.gold.cell (p := ⟨b, off + f * 9 + 3, none⟩) hbl).trans y3; replace y4 := (hW.to2.gold.cell (p := ⟨b, off + f * 9 + 4, none⟩) hbl).trans y4; replace y5 := (hW.to2.gold.cell (p := ⟨b, off + f * 9 + 5, none⟩) hbl).trans y5; replace y6 := (hW.to2.gold.cell (p := ⟨b, off + f * 9 + 6, none⟩) hbl).trans y6; replace y7 := (hW.to2.gold.cell (p := ⟨b, off + f * 9 + 7, none⟩) hbl).trans y7; replace y8 := (hW.to2.gold.cell (p := ⟨b, off + f * 9 + 8, none⟩) hbl).trans y8; replace hW := Lib.hid hW; go_simp; try rfl
            case z23 =>
            simp only [Act.put, List.setIfInBounds_toArray, List.set_cons_succ, List.set_cons_zero, List.getElem_toArray, List.getElem_cons_zero, List.getElem_cons_succ]
            refine hl_take ?v24 rfl (by kernel_rfl) ?y24 ?z24
            case y24 => intro W hW; skip; replace hW := Lib.hid hW; go_simp; try rfl
            case z24 =>
            simp only [Act.put, List.setIfInBounds_toArray, List.set_cons_succ, List.set_cons_zero, List.getElem_toArray, List.getElem_cons_zero, List.getElem_cons_succ]
            refine hl_take ?v25 rfl (by kernel_rfl) ?y25 ?z25
            case y25 => intro W hW; skip; replace hW := Lib.hid hW; go_simp; try rfl
            case z25 =>
            simp only [Act.put, List.setIfInBounds_toArray, List.set_cons_succ, List.set_cons_zero, List.getElem_toArray, List.getElem_cons_zero, List.getElem_cons_succ]
            refine hl_take ?v26 rfl (by kernel_rfl) ?y26 ?z26
            case y26 => intro W hW; change Sep W _ at hW; obtain ⟨_, x0, x1, x2, x3, x4, x5, x6, x7, x8, x9, _⟩ := b10 hW; obtain ⟨y0, y1, y2, y3, y4, y5, y6, y7, y8⟩ := hef.out; replace y0 := (hW.to2.gold.cell (p := ⟨b, off + f * 9, none⟩) hbl).trans y0; replace y1 := (hW.to2.gold.cell (p := ⟨b, off + f * 9 + 1, none⟩) hbl).trans y1; replace y2 := (hW.to2.gold.cell (p := ⟨b, off + f * 9 + 2, none⟩) hbl).trans y2; replace y3 := (hW.to2.gold.cell (p := ⟨b, off + f * 9 + 3, none⟩) hbl).trans y3; replace y4 := (hW.to2.gold.cell (p := ⟨b, off + f * 9 + 4, none⟩) hbl).trans y4; replace y5 := (hW.to2.gold.cell (p := ⟨b, off + f * 9 + 5, none⟩) hbl).trans y5; replace y6 := (hW.to2.gold.cell (p := ⟨b, off + f * 9 + 6, none⟩) hbl).trans y6; replace y7 := (hW.to2.gold.cell (p := ⟨b, off + f * 9 + 7, none⟩) hbl).trans y7; replace y8 := (hW.to2.gold.cell (p := ⟨b, off + f * 9 + 8, none⟩) hbl).trans y8; replace hW := Lib.hid hW; go_simp; try rfl
            case z26 =>
            simp only [Act.put, List.setIfInBounds_toArray, List.set_cons_succ, List.set_cons_zero, List.getElem_toArray, List.getElem_cons_zero, List.getElem_cons_succ]
            refine hl_take ?v27 rfl (by kernel_rfl) ?y27 ?z27
            case y27 => intro W hW; skip; replace hW := Lib.hid hW; go_simp; try rfl
            case z27 =>
            simp only [Act.put, List.setIfInBounds_toArray, List.set_cons_succ, List.set_cons_zero, List.getElem_toArray, List.getElem_cons_zero, List.getElem_cons_succ]
            refine hl_take ?v28 rfl (by kernel_rfl) ?y28 ?z28
            case y28 => intro W hW; change Sep W _ at hW; obtain ⟨_, x0, x1, x2, x3, x4, x5, x6, x7, x8, x9, _⟩ := b10 hW; obtain ⟨y0, y1, y2, y3, y4, y5, y6, y7, y8⟩ := hef.out; replace y0 := (hW.to2.gold.cell (p := ⟨b, off + f * 9, none⟩) hbl).trans y0; replace y1 := (hW.to2.gold.cell (p := ⟨b, off + f * 9 + 1, none⟩) hbl).trans y1; replace y2 := (hW.to2.gold.cell (p := ⟨b, off + f * 9 + 2, none⟩) hbl).trans y2; replace y3 := (hW.to2.gold.cell (p := ⟨b, off + f * 9 + 3, none⟩) hbl).trans y3; replace y4 := (hW.to2.gold.cell (p := ⟨b, off + f * 9 + 4, none⟩) hbl).trans y4; replace y5 := (hW.to2.gold.cell (p := ⟨b, off + f * 9 + 5, none⟩) hbl).trans y5; replace y6 := (hW.to2.gold.cell (p := ⟨b, off + f * 9 + 6, none⟩) hbl).trans y6; replace y7 := (hW.to2.gold.cell (p := ⟨b, off + f * 9 + 7, none⟩) hbl).trans y7; replace y8 := (hW.to2.gold.cell (p := ⟨b, off + f * 9 + 8, none⟩) hbl).trans y8; replace hW := Lib.hid hW; go_simp; try rfl
            case z28 =>
            simp only [Act.put, List.setIfInBounds_toArray, List.set_cons_succ, List.set_cons_zero, List.getElem_toArray, List.getElem_cons_zero, List.getElem_cons_succ]
            refine hl_take ?v29 rfl (by kernel_rfl) ?y29 ?z29
            case y29 => intro W hW; skip; replace hW := Lib.hid hW; go_simp; try rfl
            case z29 =>
            simp only [Act.put, List.setIfInBounds_toArray, List.set_cons_succ, List.set_cons_zero, List.getElem_toArray, List.getElem_cons_zero, List.getElem_cons_succ]
            refine hl_take ?v30 rfl (by kernel_rfl) ?y30 ?z30
            case y30 => intro W hW; skip; replace hW := Lib.hid hW; go_simp; try rfl
            case z30 =>
            simp only [Act.put, List.setIfInBounds_toArray, List.set_cons_succ, List.set_cons_zero, List.getElem_toArray, List.getElem_cons_zero, List.getElem_cons_succ]
            refine hl_take ?v31 rfl (by kernel_rfl) ?y31 ?z31
            case y31 => intro W hW; skip; replace hW := Lib.hid hW; go_simp; try rfl
            case z31 =>
            simp only [Act.put, List.setIfInBounds_toArray, List.set_cons_succ, List.set_cons_zero, List.getElem_toArray, List.getElem_cons_zero, List.getElem_cons_succ]
            refine hl_take ?v32 rfl (by kernel_rfl) ?y32 ?z32
            case y32 => intro W hW; skip; replace hW := Lib.hid hW; go_simp; try rfl
            case z32 =>
            simp only [Act.put, List.setIfInBounds_toArray, List.set_cons_succ, List.set_cons_zero, List.getElem_toArray, List.getElem_cons_zero, List.getElem_cons_succ]
            refine hl_take ?v33 rfl (by kernel_rfl) ?y33 ?z33
            case y33 => intro W hW; skip; replace hW := Lib.hid hW; go_simp; try rfl
            case z33 =>
            simp only [Act.put, List.setIfInBounds_toArray, List.set_cons_succ, List.set_cons_zero, List.getElem_toArray, List.getElem_cons_zero, List.getElem_cons_succ]
            refine hl_take ?v34 rfl (by kernel_rfl) ?y34 ?z34
            case y34 => intro W hW; change Sep W _ at hW; obtain ⟨_, x0, x1, x2, x3, x4, x5, x6, x7, x8, x9, _⟩ := b10 hW; obtain ⟨y0, y1, y2, y3, y4, y5, y6, y7, y8⟩ := hef.out; replace y0 := (hW.to2.gold.cell (p := ⟨b, off + f * 9, none⟩) hbl).trans y0; replace y1 := (hW.to2.gold.cell (p := ⟨b, off + f * 9 + 1, none⟩) hbl).trans y1; replace y2 := (hW.to2.gold.cell (p := ⟨b, off + f * 9 + 2, none⟩) hbl).trans y2; replace y3 := (hW.to2.gold.cell (p := ⟨b, off + f * 9 + 3, none⟩) hbl).trans y3; replace y4 := (hW.to2.gold.cell (p := ⟨b, off + f * 9 + 4, none⟩) hbl).trans y4; replace y5 := (hW.to2.gold.cell (p := ⟨b, off + f * 9 + 5, none⟩) hbl).trans y5; replace y6 := (hW.to2.gold.cell (p := ⟨b, off + f * 9 + 6, none⟩) hbl).trans y6; replace y7 := (hW.to2.gold.cell (p := ⟨b, off + f * 9 + 7, none⟩) hbl).trans y7; replace y8 := (hW.to2.gold.cell (p := ⟨b, off + f * 9 + 8, none⟩) hbl).trans y8; replace hW := Lib.hid hW; go_simp; try rfl
            case z34 =>
            simp only [Act.put, List.setIfInBounds_toArray, List.set_cons_succ, List.set_cons_zero, List.getElem_toArray, List.getElem_cons_zero, List.getElem_cons_succ]
            refine hl_take ?v35 rfl (by kernel_rfl) ?y35 ?z35
            case y35 => intro W hW; skip; replace hW := Lib.hid hW; go_simp; try rfl
            case z35 =>
            simp only [Act.put, List.setIfInBounds_toArray, List.set_cons_succ, List.set_cons_zero, List.getElem_toArray, List.getElem_cons_zero, List.getElem_cons_succ]
            refine hl_take ?v36 rfl (by kernel_rfl) ?y36 ?z36
            case y36 => intro W hW; skip; replace hW := Lib.hid hW; go_simp; try rfl
            case z36 =>
            simp only [Act.put, List.setIfInBounds_toArray, List.set_cons_succ, List.set_cons_zero, List.getElem_toArray, List.getElem_cons_zero, List.getElem_cons_succ]
            refine hl_take ?v37 rfl (by kernel_rfl) ?y37 ?z37
            case y37 => intro W hW; change Sep W _ at hW; obtain ⟨_, x0, x1, x2, x3, x4, x5, x6, x7, x8, x9, _⟩ := b10 hW; obtain ⟨y0, y1, y2, y3, y4, y5, y6, y7, y8⟩ := hef.out; replace y0 := (hW.to2.gold.cell (p := ⟨b, off + f * 9, none⟩) hbl).trans y0; replace y1 := (hW.to2.gold.cell (p := ⟨b, off + f * 9 + 1, none⟩) hbl).trans y1; replace y2 := (hW.to2.gold.cell (p := ⟨b, off + f * 9 + 2, none⟩) hbl).trans y2; replace y3 := (hW.to2.gold.cell (p := ⟨b, off + f * 9 + 3, none⟩) hbl).trans y3; replace y4 := (hW.to2.gold.cell (p := ⟨b, off + f * 9 + 4, none⟩) hbl).trans y4; replace y5 := (hW.to2.gold.cell (p := ⟨b, off + f * 9 + 5, none⟩) hbl).trans y5; replace y6 := (hW.to2.gold.cell (p := ⟨b, off + f * 9 + 6, none⟩) hbl).trans y6; replace y7 := (hW.to2.gold.cell (p := ⟨b, off + f * 9 + 7, none⟩) hbl).trans y7; replace y8 := (hW.to2.gold.cell (p := ⟨b, off + f * 9 + 8, none⟩) hbl).trans y8; replace hW := Lib.hid hW; go_simp; try rfl
            case z37 =>
            simp only [Act.put, List.setIfInBounds_toArray, List.set_cons_succ, List.set_cons_zero, List.getElem_toArray, List.getElem_cons_zero, List.getElem_cons_succ]
            refine hl_take ?v38 rfl (by kernel_rfl) ?y38 ?z38
            case y38 => intro W hW; skip; replace hW := Lib.hid hW; go_simp; try rfl
            case z38 =>
            simp only [Act.put, List.setIfInBounds_toArray, List.set_cons_succ, List.set_cons_zero, List.getElem_toArray, List.getElem_cons_zero, List.getElem_cons_succ]
            refine hl_take ?v39 rfl (by kernel_rfl) ?y39 ?z39
            case y39 => intro W hW; change Sep W _ at hW; obtain ⟨_, x0, x1, x2, x3, x4, x5, x6, x7, x8, x9, _⟩ := b10 hW; obtain ⟨y0, y1, y2, y3, y4, y5, y6, y7, y8⟩ := hef.out; replace y0 := (hW.to2.gold.cell (p := ⟨b, off + f * 9, none⟩) hbl).trans y0; replace y1 := (hW.to2.gold.cell (p := ⟨b, off + f * 9 + 1, none⟩) hbl).trans y1; replace y2 := (hW.to2.gold.cell (p := ⟨b, off + f * 9 + 2, none⟩) hbl).trans y2; replace y3 := (hW.to2.gold.cell (p := ⟨b, off + f * 9 + 3, none⟩) hbl).trans y3; replace y4 := (hW.to2.gold.cell (p := ⟨b, off + f * 9 + 4, none⟩) hbl).trans y4; replace y5 := (hW.to2.gold.cell (p := ⟨b, off + f * 9 + 5, none⟩) hbl).trans y5; replace y6 := (hW.to2.gold.cell (p := ⟨b, off + f * 9 + 6, none⟩) hbl).trans y6; replace y7 := (hW.to2.gold.cell (p := ⟨b, off + f * 9 + 7, none⟩) hbl).trans y7; replace y8 := (hW.to2.gold.cell (p := ⟨b, off + f * 9 + 8, none⟩) hbl).trans y8; replace hW := Lib.hid hW; go_simp; try rfl
            case z39 =>
            simp only [Act.put, List.setIfInBounds_toArray, List.set_cons_succ, List.set_cons_zero, List.getElem_toArray, List.getElem_cons_zero, List.getElem_cons_succ]
            refine hl_take ?v40 rfl (by kernel_rfl) ?y40 ?z40
            case y40 => intro W hW; skip; replace hW := Lib.hid hW; go_simp; try rfl
            case z40 =>
            simp only [Act.put, List.setIfInBounds_toArray, List.set_cons_succ, List.set_cons_zero, List.getElem_toArray, List.getElem_cons_zero, List.getElem_cons_succ]
            refine hl_take ?v41 rfl (by kernel_rfl) ?y41 ?z41
            case y41 => intro W hW; skip; replace hW := Lib.hid hW; go_simp; try rfl
            case z41 =>
            simp only [Act.put, List.setIfInBounds_toArray, List.set_cons_succ, List.set_cons_zero, List.getElem_toArray, List.getElem_cons_zero, List.getElem_cons_succ]
            refine hl_take ?v42 rfl (by kernel_rfl) ?y42 ?z42
            case y42 => intro W hW; skip; replace hW := Lib.hid hW; go_simp; try rfl
            case z42 =>
            simp only [Act.put, List.setIfInBounds_toArray, List.set_cons_succ, List.set_cons_zero, List.getElem_toArray, List.getElem_cons_zero, List.getElem_cons_succ]
            refine hl_take ?v43 rfl (by kernel_rfl) ?y43 ?z43
            case y43 => intro W hW; skip; replace hW := Lib.hid hW; go_simp; try rfl
            case z43 =>
            simp only [Act.put, List.setIfInBounds_toArray, List.set_cons_succ, List.set_cons_zero, List.getElem_toArray, List.getElem_cons_zero, List.getElem_cons_succ]
            refine hl_take ?v44 rfl (by kernel_rfl) ?y44 ?z44
            case y44 => intro W hW; skip; replace hW := Lib.hid hW; go_simp; try rfl
            case z44 =>
            simp only [Act.put, List.setIfInBounds_toArray, List.set_cons_succ, List.set_cons_zero, List.getElem_toArray, List.getElem_cons_zero, List.getElem_cons_succ]
            refine hl_take ?v45 rfl (by kernel_rfl) ?y45 ?z45
            case y45 => intro W hW; skip; replace hW := Lib.hid hW; go_simp; try rfl
            case z45 =>
            simp only [Act.put, List.setIfInBounds_toArray, List.set_cons_succ, List.set_cons_zero, List.getElem_toArray, List.getElem_cons_zero, List.getElem_cons_succ]
            refine hl_skip rfl (by kernel_rfl) ?_
            simp only [Act.put, List.setIfInBounds_toArray, List.set_cons_succ, List.set_cons_zero, List.getElem_toArray, List.getElem_cons_zero, List.getElem_cons_succ]
            refine hl_skip rfl (by kernel_rfl) ?_
            simp only [Act.put, List.setIfInBounds_toArray, List.set_cons_succ, List.set_cons_zero, List.getElem_toArray, List.getElem_cons_zero, List.getElem_cons_succ]
            refine hl_skip rfl (by kernel_rfl) ?_
            simp only [Act.put, List.setIfInBounds_toArray, List.set_cons_succ, List.set_cons_zero, List.getElem_toArray, List.getElem_cons_zero, List.getElem_cons_succ]
            refine hl_skip rfl (by kernel_rfl) ?_
            simp only [Act.put, List.setIfInBounds_toArray, List.set_cons_succ, List.set_cons_zero, List.getElem_toArray, List.getElem_cons_zero, List.getElem_cons_succ]
            refine hl_skip rfl (by kernel_rfl) ?_
            simp only [Act.put, List.setIfInBounds_toArray, List.set_cons_succ, List.set_cons_zero, List.getElem_toArray, List.getElem_cons_zero, List.getElem_cons_succ]
            refine hl_skip rfl (by kernel_rfl) ?_
            simp only [Act.put, List.setIfInBounds_toArray, List.set_cons_succ, List.set_cons_zero, List.getElem_toArray, List.getElem_cons_zero, List.getElem_cons_succ]
            refine hl_skip rfl (by kernel_rfl) ?_
            simp only [Act.put, List.setIfInBounds_toArray, List.set_cons_succ, List.set_cons_zero, List.getElem_toArray, List.getElem_cons_zero, List.getElem_cons_succ]
            refine hl_skip rfl (by kernel_rfl) ?_
            simp only [Act.put, List.setIfInBounds_toArray, List.set_cons_succ, List.set_cons_zero, List.getElem_toArray, List.getElem_cons_zero, List.getElem_cons_succ]
            refine hl_skip rfl (by kernel_rfl) ?_
            simp only [Act.put, List.setIfInBounds_toArray, List.set_cons_succ, List.set_cons_zero, List.getElem_toArray, List.getElem_cons_zero, List.getElem_cons_succ]
            refine hl_take ?v46 rfl (by kernel_rfl) ?y46 ?z46
            case y46 => intro W hW; skip; replace hW := Lib.hid hW; go_simp; try rfl
            case z46 =>
            simp only [Act.put, List.setIfInBounds_toArray, List.set_cons_succ, List.set_cons_zero, List.getElem_toArray, List.getElem_cons_zero, List.getElem_cons_succ]
            refine hl_take ?v47 rfl (by kernel_rfl) ?y47 ?z47
            case y47 => intro W hW; skip; replace hW := Lib.hid hW; go_simp; try rfl
            case z47 =>
            simp only [Act.put, List.setIfInBounds_toArray, List.set_cons_succ, List.set_cons_zero, List.getElem_toArray, List.getElem_cons_zero, List.getElem_cons_succ]
            refine hl_done ?_
            clear hB
            replace hB := hS
            clear hS
            obtain ⟨_, v0, v1, v2, v3, v4, v5, v6, v7, v8, v9, _⟩ := b10 hB.out
            cases hop : opens ⟨call, thread, (f : Int), to_, ⟨kind, txn, t_, r_, mode, code⟩⟩ with
            | true =>
              have hto : to_ < 0 := by unfold opens at hop; simpa using hop
              have hcl2 := hcl0.out
              rw [hop, if_pos rfl, hcl.out] at hcl2
              replace hcl2 := Lib.hid hcl2
              clear hop
              go_wp2_with fail
              clear v0 v1 v2 v3 v4 v5 v6 v7 v8 v9
              go_loopw [11] (fun x wr => ∃ k : Nat, k ≤ i ∧ x = .int .i64 k ∧ Hid (Sep wr [blk xb 36 #[.int .i64 call, .int .i64 thread, .int .i64 (f : Int), .int .i64 to_, .int .i64 kind, .int .i64 txn, .int .i64 t_, .int .i64 r_, .int .i64 mode, .int .i64 code], vec 36 10 (.slice (some ⟨g, 0, none⟩) n sc) n (scells S), old w])) (fun x _ => i - (intOf x).toNat)
              case atStart => exact ⟨0, Nat.zero_le _, rfl, hB⟩
              case round =>
                clear hB
                obtain ⟨k, hk, rfl, hB⟩ := hrel
                by_cases hki : k < i
                · have i3 : (0 : Int) ≤ (k : Int) := by omega
                  have i4 : (k : Int) < (n : Int) := by omega
                  have i5 : (k : Int) < (i : Int) := by omega
                  obtain ⟨u, hu⟩ : ∃ u, S[k]? = some u := ⟨S[k]'(by rw [hnS.out]; omega), List.getElem?_eq_getElem _⟩
                  have hap := hapart.out k u hki hu
                  have HBf := Lib.hid (fun W => before_any u ⟨call, thread, (f : Int), to_, ⟨kind, txn, t_, r_, mode, code⟩⟩ W)
                  replace hu := Lib.hid hu
                  by_cases hth : u.thread = thread
                  · have hb := hap hth
                    rw [hb] at HBf
                    replace HBf := Lib.hid HBf.out
                    have hthb : (u.thread == thread) = true := by rw [hth]; simp
                    clear hap hb hth
                    go_wp2_with fail
                    have hS := Lib.hid (show (fun W : World => Sep W [blk xb 36 #[.int .i64 call, .int .i64 thread, .int .i64 (f : Int), .int .i64 to_, .int .i64 kind, .int .i64 txn, .int .i64 t_, .int .i64 r_, .int .i64 mode, .int .i64 code], vec 36 10 (.slice (some ⟨g, 0, none⟩) n sc) n (scells S), old w]) _ from hB.out.drew)
                    refine hl_begin (fun W : World => Sep W [blk xb 36 #[.int .i64 call, .int .i64 thread, .int .i64 (f : Int), .int .i64 to_, .int .i64 kind, .int .i64 txn, .int .i64 t_, .int .i64 r_, .int .i64 mode, .int .i64 code], vec 36 10 (.slice (some ⟨g, 0, none⟩) n sc) n (scells S), old w]) [(0, true), (1, true), (2, true), (3, true), (4, true), (5, true), (6, true), (7, true), (8, true), (9, true), (10, true), (11, true), (12, true), (13, true), (14, false), (15, true), (16, true)] (by kernel_rfl) (by kernel_rfl) (by kernel_rfl) rfl (fun _ _ _ _ _ h => h) hS.out ?_
                    change HL _ _ _ _ _ _ (World.drew _)
                    generalize World.drew _ = wd at *
                    refine hl_take ?v48 rfl (by kernel_rfl) ?y48 ?z48
                    case y48 => intro W hW; skip; replace hW := Lib.hid hW; go_simp; try rfl
                    case z48 =>
                    simp only [Act.put, List.setIfInBounds_toArray, List.set_cons_succ, List.set_cons_zero, List.getElem_toArray, List.getElem_cons_zero, List.getElem_cons_succ]
                    refine hl_take ?v49 rfl (by kernel_rfl) ?y49 ?z49
                    case y49 => intro W hW; skip; replace hW := Lib.hid hW; go_simp; try rfl
                    case z49 =>
                    simp only [Act.put, List.setIfInBounds_toArray, List.set_cons_succ, List.set_cons_zero, List.getElem_toArray, List.getElem_cons_zero, List.getElem_cons_succ]
                    refine hl_take ?v50 rfl (by kernel_rfl) ?y50 ?z50
                    case y50 => intro W hW; skip; replace hW := Lib.hid hW; go_simp; try rfl
                    case z50 =>
                    simp only [Act.put, List.setIfInBounds_toArray, List.set_cons_succ, List.set_cons_zero, List.getElem_toArray, List.getElem_cons_zero, List.getElem_cons_succ]
                    refine hl_take ?v51 rfl (by kernel_rfl) ?y51 ?z51
                    case y51 => intro W hW; skip; replace hW := Lib.hid hW; go_simp; try rfl
                    case z51 =>
                    simp only [Act.put, List.setIfInBounds_toArray, List.set_cons_succ, List.set_cons_zero, List.getElem_toArray, List.getElem_cons_zero, List.getElem_cons_succ]
                    refine hl_take ?v52 rfl (by kernel_rfl) ?y52 ?z52
                    case y52 => intro W hW; change Sep W _ at hW; obtain ⟨_, x0, x1, x2, x3, x4, x5, x6, x7, x8, x9, _⟩ := b10 hW; obtain ⟨y0, y1, y2, y3, y4, y5, y6, y7, y8, y9⟩ := sp10 hu.out; replace y0 := (hW.to1.vec_cell y0).1; replace y1 := (hW.to1.vec_cell y1).1; replace y2 := (hW.to1.vec_cell y2).1; replace y3 := (hW.to1.vec_cell y3).1; replace y4 := (hW.to1.vec_cell y4).1; replace y5 := (hW.to1.vec_cell y5).1; replace y6 := (hW.to1.vec_cell y6).1; replace y7 := (hW.to1.vec_cell y7).1; replace y8 := (hW.to1.vec_cell y8).1; replace y9 := (hW.to1.vec_cell y9).1; replace hW := Lib.hid hW; go_simp; try rfl
                    case z52 =>
                    simp only [Act.put, List.setIfInBounds_toArray, List.set_cons_succ, List.set_cons_zero, List.getElem_toArray, List.getElem_cons_zero, List.getElem_cons_succ]
                    refine hl_take ?v53 rfl (by kernel_rfl) ?y53 ?z53
                    case y53 => intro W hW; skip; replace hW := Lib.hid hW; go_simp; try rfl
                    case z53 =>
                    simp only [Act.put, List.setIfInBounds_toArray, List.set_cons_succ, List.set_cons_zero, List.getElem_toArray, List.getElem_cons_zero, List.getElem_cons_succ]
                    refine hl_take ?v54 rfl (by kernel_rfl) ?y54 ?z54
                    case y54 => intro W hW; change Sep W _ at hW; obtain ⟨_, x0, x1, x2, x3, x4, x5, x6, x7, x8, x9, _⟩ := b10 hW; obtain ⟨y0, y1, y2, y3, y4, y5, y6, y7, y8, y9⟩ := sp10 hu.out; replace y0 := (hW.to1.vec_cell y0).1; replace y1 := (hW.to1.vec_cell y1).1; replace y2 := (hW.to1.vec_cell y2).1; replace y3 := (hW.to1.vec_cell y3).1; replace y4 := (hW.to1.vec_cell y4).1; replace y5 := (hW.to1.vec_cell y5).1; replace y6 := (hW.to1.vec_cell y6).1; replace y7 := (hW.to1.vec_cell y7).1; replace y8 := (hW.to1.vec_cell y8).1; replace y9 := (hW.to1.vec_cell y9).1; replace hW := Lib.hid hW; go_simp; try rfl
                    case z54 =>
                    simp only [Act.put, List.setIfInBounds_toArray, List.set_cons_succ, List.set_cons_zero, List.getElem_toArray, List.getElem_cons_zero, List.getElem_cons_succ]
                    refine hl_take ?v55 rfl (by kernel_rfl) ?y55 ?z55
                    case y55 => intro W hW; skip; replace hW := Lib.hid hW; go_simp; try rfl
                    case z55 =>
                    simp only [Act.put, List.setIfInBounds_toArray, List.set_cons_succ, List.set_cons_zero, List.getElem_toArray, List.getElem_cons_zero, List.getElem_cons_succ]
                    refine hl_take ?v56 rfl (by kernel_rfl) ?y56 ?z56
                    case y56 => intro W hW; skip; replace hW := Lib.hid hW; go_simp; try rfl
                    case z56 =>
                    simp only [Act.put, List.setIfInBounds_toArray, List.set_cons_succ, List.set_cons_zero, List.getElem_toArray, List.getElem_cons_zero, List.getElem_cons_succ]
                    refine hl_take ?v57 rfl (by kernel_rfl) ?y57 ?z57
                    case y57 => intro W hW; skip; replace hW := Lib.hid hW; go_simp; try rfl
                    case z57 =>
                    simp only [Act.put, List.setIfInBounds_toArray, List.set_cons_succ, List.set_cons_zero, List.getElem_toArray, List.getElem_cons_zero, List.getElem_cons_succ]
                    refine hl_take ?v58 rfl (by kernel_rfl) ?y58 ?z58
                    case y58 => intro W hW; skip; replace hW := Lib.hid hW; go_simp; try rfl
                    case z58 =>
                    simp only [Act.put, List.setIfInBounds_toArray, List.set_cons_succ, List.set_cons_zero, List.getElem_toArray, List.getElem_cons_zero, List.getElem_cons_succ]
                    refine hl_take ?v59 rfl (by kernel_rfl) ?y59 ?z59
                    case y59 => intro W hW; skip; replace hW := Lib.hid hW; go_simp; try rfl
                    case z59 =>
                    simp only [Act.put, List.setIfInBounds_toArray, List.set_cons_succ, List.set_cons_zero, List.getElem_toArray, List.getElem_cons_zero, List.getElem_cons_succ]
                    refine hl_take ?v60 rfl (by kernel_rfl) ?y60 ?z60
                    case y60 => intro W hW; change Sep W _ at hW; obtain ⟨_, x0, x1, x2, x3, x4, x5, x6, x7, x8, x9, _⟩ := b10 hW; obtain ⟨y0, y1, y2, y3, y4, y5, y6, y7, y8, y9⟩ := sp10 hu.out; replace y0 := (hW.to1.vec_cell y0).1; replace y1 := (hW.to1.vec_cell y1).1; replace y2 := (hW.to1.vec_cell y2).1; replace y3 := (hW.to1.vec_cell y3).1; replace y4 := (hW.to1.vec_cell y4).1; replace y5 := (hW.to1.vec_cell y5).1; replace y6 := (hW.to1.vec_cell y6).1; replace y7 := (hW.to1.vec_cell y7).1; replace y8 := (hW.to1.vec_cell y8).1; replace y9 := (hW.to1.vec_cell y9).1; replace hW := Lib.hid hW; go_simp; try rfl
                    case z60 =>
                    simp only [Act.put, List.setIfInBounds_toArray, List.set_cons_succ, List.set_cons_zero, List.getElem_toArray, List.getElem_cons_zero, List.getElem_cons_succ]
                    refine hl_take ?v61 rfl (by kernel_rfl) ?y61 ?z61
                    case y61 => intro W hW; change Sep W _ at hW; obtain ⟨_, x0, x1, x2, x3, x4, x5, x6, x7, x8, x9, _⟩ := b10 hW; obtain ⟨y0, y1, y2, y3, y4, y5, y6, y7, y8, y9⟩ := sp10 hu.out; replace y0 := (hW.to1.vec_cell y0).1; replace y1 := (hW.to1.vec_cell y1).1; replace y2 := (hW.to1.vec_cell y2).1; replace y3 := (hW.to1.vec_cell y3).1; replace y4 := (hW.to1.vec_cell y4).1; replace y5 := (hW.to1.vec_cell y5).1; replace y6 := (hW.to1.vec_cell y6).1; replace y7 := (hW.to1.vec_cell y7).1; replace y8 := (hW.to1.vec_cell y8).1; replace y9 := (hW.to1.vec_cell y9).1; replace hW := Lib.hid hW; go_simp; try rfl
                    case z61 =>
                    simp only [Act.put, List.setIfInBounds_toArray, List.set_cons_succ, List.set_cons_zero, List.getElem_toArray, List.getElem_cons_zero, List.getElem_cons_succ]
                    refine hl_one rfl (by kernel_rfl) (fun K hK => ?_)
                    go_simp
                    refine (HBf.out _).mono ?_
                    rintro e w1 ⟨rfl, q1⟩
                    replace hS := Lib.hid (hS.out.below q1)
                    clear q1
                    refine hK.out _ _ hS.out ?_
                    clear hK K
                    try simp only [Act.put, List.setIfInBounds_toArray, List.set_cons_succ, List.set_cons_zero, List.getElem_toArray, List.getElem_cons_zero, List.getElem_cons_succ]
                    refine hl_take ?v62 rfl (by kernel_rfl) ?y62 ?z62
                    case y62 => intro W hW; skip; replace hW := Lib.hid hW; go_simp; try rfl
                    case z62 =>
                    simp only [Act.put, List.setIfInBounds_toArray, List.set_cons_succ, List.set_cons_zero, List.getElem_toArray, List.getElem_cons_zero, List.getElem_cons_succ]
                    refine hl_take ?v63 rfl (by kernel_rfl) ?y63 ?z63
                    case y63 => intro W hW; skip; replace hW := Lib.hid hW; go_simp; try rfl
                    case z63 =>
                    simp only [Act.put, List.setIfInBounds_toArray, List.set_cons_succ, List.set_cons_zero, List.getElem_toArray, List.getElem_cons_zero, List.getElem_cons_succ]
                    refine hl_done ?_
                    clear hB
                    replace hB := hS
                    clear hS
                    go_wp2_with fail
                    go_roundw
                    case rel => exact ⟨k + 1, by omega, by go_num, hB⟩
                    case measure => simp [intOf]; omega
                  · have hthb : (u.thread == thread) = false := beq_eq_false_iff_ne.2 hth
                    clear hap hth HBf
                    go_wp2_with fail
                    have hS := Lib.hid (show (fun W : World => Sep W [blk xb 36 #[.int .i64 call, .int .i64 thread, .int .i64 (f : Int), .int .i64 to_, .int .i64 kind, .int .i64 txn, .int .i64 t_, .int .i64 r_, .int .i64 mode, .int .i64 code], vec 36 10 (.slice (some ⟨g, 0, none⟩) n sc) n (scells S), old w]) _ from hB.out.drew)
                    refine hl_begin (fun W : World => Sep W [blk xb 36 #[.int .i64 call, .int .i64 thread, .int .i64 (f : Int), .int .i64 to_, .int .i64 kind, .int .i64 txn, .int .i64 t_, .int .i64 r_, .int .i64 mode, .int .i64 code], vec 36 10 (.slice (some ⟨g, 0, none⟩) n sc) n (scells S), old w]) [(0, true), (1, true), (2, true), (3, true), (4, true), (5, true), (6, true), (7, true), (8, true), (9, true), (10, true), (11, true), (12, true), (13, true), (14, false), (15, true), (16, true)] (by kernel_rfl) (by kernel_rfl) (by kernel_rfl) rfl (fun _ _ _ _ _ h => h) hS.out ?_
                    change HL _ _ _ _ _ _ (World.drew _)
                    generalize World.drew _ = wd at *
                    refine hl_take ?v64 rfl (by kernel_rfl) ?y64 ?z64
                    case y64 => intro W hW; skip; replace hW := Lib.hid hW; go_simp; try rfl
                    case z64 =>
                    simp only [Act.put, List.setIfInBounds_toArray, List.set_cons_succ, List.set_cons_zero, List.getElem_toArray, List.getElem_cons_zero, List.getElem_cons_succ]
                    refine hl_take ?v65 rfl (by kernel_rfl) ?y65 ?z65
                    case y65 => intro W hW; skip; replace hW := Lib.hid hW; go_simp; try rfl
                    case z65 =>
                    simp only [Act.put, List.setIfInBounds_toArray, List.set_cons_succ, List.set_cons_zero, List.getElem_toArray, List.getElem_cons_zero, List.getElem_cons_succ]
                    refine hl_take ?v66 rfl (by kernel_rfl) ?y66 ?z66
                    case y66 => intro W hW; skip; replace hW := Lib.hid hW; go_simp; try rfl
                    case z66 =>
                    simp only [Act.put, List.setIfInBounds_toArray, List.set_cons_succ, List.set_cons_zero, List.getElem_toArray, List.getElem_cons_zero, List.getElem_cons_succ]
                    refine hl_take ?v67 rfl (by kernel_rfl) ?y67 ?z67
                    case y67 => intro W hW; skip; replace hW := Lib.hid hW; go_simp; try rfl
                    case z67 =>
                    simp only [Act.put, List.setIfInBounds_toArray, List.set_cons_succ, List.set_cons_zero, List.getElem_toArray, List.getElem_cons_zero, List.getElem_cons_succ]
                    refine hl_take ?v68 rfl (by kernel_rfl) ?y68 ?z68
                    case y68 => intro W hW; change Sep W _ at hW; obtain ⟨_, x0, x1, x2, x3, x4, x5, x6, x7, x8, x9, _⟩ := b10 hW; obtain ⟨y0, y1, y2, y3, y4, y5, y6, y7, y8, y9⟩ := sp10 hu.out; replace y0 := (hW.to1.vec_cell y0).1; replace y1 := (hW.to1.vec_cell y1).1; replace y2 := (hW.to1.vec_cell y2).1; replace y3 := (hW.to1.vec_cell y3).1; replace y4 := (hW.to1.vec_cell y4).1; replace y5 := (hW.to1.vec_cell y5).1; replace y6 := (hW.to1.vec_cell y6).1; replace y7 := (hW.to1.vec_cell y7).1; replace y8 := (hW.to1.vec_cell y8).1; replace y9 := (hW.to1.vec_cell y9).1; replace hW := Lib.hid hW; go_simp; try rfl
                    case z68 =>
                    simp only [Act.put, List.setIfInBounds_toArray, List.set_cons_succ, List.set_cons_zero, List.getElem_toArray, List.getElem_cons_zero, List.getElem_cons_succ]
                    refine hl_take ?v69 rfl (by kernel_rfl) ?y69 ?z69
                    case y69 => intro W hW; skip; replace hW := Lib.hid hW; go_simp; try rfl
                    case z69 =>
                    simp only [Act.put, List.setIfInBounds_toArray, List.set_cons_succ, List.set_cons_zero, List.getElem_toArray, List.getElem_cons_zero, List.getElem_cons_succ]
                    refine hl_take ?v70 rfl (by kernel_rfl) ?y70 ?z70
                    case y70 => intro W hW; change Sep W _ at hW; obtain ⟨_, x0, x1, x2, x3, x4, x5, x6, x7, x8, x9, _⟩ := b10 hW; obtain ⟨y0, y1, y2, y3, y4, y5, y6, y7, y8, y9⟩ := sp10 hu.out; replace y0 := (hW.to1.vec_cell y0).1; replace y1 := (hW.to1.vec_cell y1).1; replace y2 := (hW.to1.vec_cell y2).1; replace y3 := (hW.to1.vec_cell y3).1; replace y4 := (hW.to1.vec_cell y4).1; replace y5 := (hW.to1.vec_cell y5).1; replace y6 := (hW.to1.vec_cell y6).1; replace y7 := (hW.to1.vec_cell y7).1; replace y8 := (hW.to1.vec_cell y8).1; replace y9 := (hW.to1.vec_cell y9).1; replace hW := Lib.hid hW; go_simp; try rfl
                    case z70 =>
                    simp only [Act.put, List.setIfInBounds_toArray, List.set_cons_succ, List.set_cons_zero, List.getElem_toArray, List.getElem_cons_zero, List.getElem_cons_succ]
                    refine hl_take ?v71 rfl (by kernel_rfl) ?y71 ?z71
                    case y71 => intro W hW; skip; replace hW := Lib.hid hW; go_simp; try rfl
                    case z71 =>
                    simp only [Act.put, List.setIfInBounds_toArray, List.set_cons_succ, List.set_cons_zero, List.getElem_toArray, List.getElem_cons_zero, List.getElem_cons_succ]
                    refine hl_take ?v72 rfl (by kernel_rfl) ?y72 ?z72
                    case y72 => intro W hW; skip; replace hW := Lib.hid hW; go_simp; try rfl
                    case z72 =>
                    simp only [Act.put, List.setIfInBounds_toArray, List.set_cons_succ, List.set_cons_zero, List.getElem_toArray, List.getElem_cons_zero, List.getElem_cons_succ]
                    refine hl_skip rfl (by kernel_rfl) ?_
                    simp only [Act.put, List.setIfInBounds_toArray, List.set_cons_succ, List.set_cons_zero, List.getElem_toArray, List.getElem_cons_zero, List.getElem_cons_succ]
                    refine hl_skip rfl (by kernel_rfl) ?_
                    simp only [Act.put, List.setIfInBounds_toArray, List.set_cons_succ, List.set_cons_zero, List.getElem_toArray, List.getElem_cons_zero, List.getElem_cons_succ]
                    refine hl_skip rfl (by kernel_rfl) ?_
                    simp only [Act.put, List.setIfInBounds_toArray, List.set_cons_succ, List.set_cons_zero, List.getElem_toArray, List.getElem_cons_zero, List.getElem_cons_succ]
                    refine hl_skip rfl (by kernel_rfl) ?_
                    simp only [Act.put, List.setIfInBounds_toArray, List.set_cons_succ, List.set_cons_zero, List.getElem_toArray, List.getElem_cons_zero, List.getElem_cons_succ]
                    refine hl_skip rfl (by kernel_rfl) ?_
                    simp only [Act.put, List.setIfInBounds_toArray, List.set_cons_succ, List.set_cons_zero, List.getElem_toArray, List.getElem_cons_zero, List.getElem_cons_succ]
                    refine hl_skip1 rfl (by kernel_rfl) ?_
                    simp only [Act.put, List.setIfInBounds_toArray, List.set_cons_succ, List.set_cons_zero, List.getElem_toArray, List.getElem_cons_zero, List.getElem_cons_succ]
                    refine hl_skip rfl (by kernel_rfl) ?_
                    simp only [Act.put, List.setIfInBounds_toArray, List.set_cons_succ, List.set_cons_zero, List.getElem_toArray, List.getElem_cons_zero, List.getElem_cons_succ]
                    refine hl_take ?v73 rfl (by kernel_rfl) ?y73 ?z73
                    case y73 => intro W hW; skip; replace hW := Lib.hid hW; go_simp; try rfl
                    case z73 =>
                    simp only [Act.put, List.setIfInBounds_toArray, List.set_cons_succ, List.set_cons_zero, List.getElem_toArray, List.getElem_cons_zero, List.getElem_cons_succ]
                    refine hl_done ?_
                    clear hB
                    replace hB := hS
                    clear hS
                    go_wp2_with fail
                    go_roundw
                    case rel => exact ⟨k + 1, by omega, by go_num, hB⟩
                    case measure => simp [intOf]; omega
                · have i5 : ¬ (k : Int) < (i : Int) := by omega
                  go_wp2_with fail
                  go_roundw
                  case rel => exact ⟨i + 1, m, by omega, rfl, by go_num, hcl2, by omega, Lib.hid hB.out.tail⟩
                  case measure => simp [intOf]; omega
            | false =>
              have hto : 0 ≤ to_ := by unfold opens at hop; simpa using hop
              obtain ⟨t, rfl⟩ := Int.eq_ofNat_of_zero_le hto
              have hft : (f : Int) < (t : Int) := by have := hat.out; have h2 := hn.out; (try simp only at this); omega
              have htl : (t : Int) < (len : Int) := by have := hat.out; have h2 := hn.out; (try simp only at this); omega
              have ht0 : (0 : Int) ≤ (t : Int) := by omega
              obtain ⟨e', he', hei, hec, hed⟩ := hends.out hop
              simp only [Int.toNat_natCast] at he' hec hed
              have het := Lib.hid (hz.out t e' he')
              have hcl2 := hcl0.out
              rw [hop, if_neg (by simp), hcl.out] at hcl2
              replace hcl2 := Lib.hid hcl2
              simp only [hei, hec, hed] at het
              replace het := Lib.hid het.out
              have q3 : decide (t ≤ f) = false := decide_eq_false (by omega)
              have q4 : decide (len ≤ t) = false := decide_eq_false (by omega)
              clear hop he' hei hec hed hto
              go_wp2_with fail
              clear v0 v1 v2 v3 v4 v5 v6 v7 v8 v9
              have hS := Lib.hid (show (fun W : World => Sep W [blk xb 36 #[.int .i64 call, .int .i64 thread, .int .i64 (f : Int), .int .i64 (t : Int), .int .i64 kind, .int .i64 txn, .int .i64 t_, .int .i64 r_, .int .i64 mode, .int .i64 code], vec 36 10 (.slice (some ⟨g, 0, none⟩) n sc) n (scells S), old w]) _ from hB.out.drew)
              try dsimp only [List.append]
              refine hl_begin_n (fun W : World => Sep W [blk xb 36 #[.int .i64 call, .int .i64 thread, .int .i64 (f : Int), .int .i64 (t : Int), .int .i64 kind, .int .i64 txn, .int .i64 t_, .int .i64 r_, .int .i64 mode, .int .i64 code], vec 36 10 (.slice (some ⟨g, 0, none⟩) n sc) n (scells S), old w]) ((0, true) :: (1, true) :: (2, true) :: (3, true) :: (4, true) :: (5, true) :: (6, true) :: (7, true) :: (8, true) :: (9, true) :: (10, true) :: (11, true) :: (12, true) :: (13, true) :: (14, true) :: (15, true) :: (16, true) :: (17, true) :: (18, true) :: (19, true) :: (20, true) :: (21, true) :: (22, true) :: (23, true) :: (24, true) :: (25, true) :: (26, true) :: (27, true) :: (28, true) :: (29, true) :: (30, true) :: (31, true) :: (32, true) :: (33, true) :: (34, true) :: (35, true) :: (36, true) :: (37, true) :: (38, true) :: (39, true) :: (40, true) :: (41, true) :: (42, true) :: (43, true) :: []) (([], [10], 126) :: ([0], [125], 127) :: ([], [10], 128) :: ([2], [127], 129) :: ([1, 3], [126, 128], 130) :: ([4], [129], 131) :: ([5], [10, 130], 132) :: ([6, 5], [131, 130], 133) :: ([5], [0, 130], 134) :: ([8, 5], [133, 130], 135) :: ([7, 9, 5], [132, 134, 130], 136) :: ([5, 10], [130, 135], 137) :: ([11, 5], [136], 138) :: ([12], [0, 137], 139) :: ([12], [10, 137], 140) :: ([14, 12], [139, 137], 141) :: ([13, 15, 12], [138, 140, 137], 142) :: ([16, 12], [141, 137], 143) :: ([17, 12], [142, 137], 144) :: ([12, 18], [137, 143], 145) :: ([19, 12], [144], 146) :: ([20], [0, 145], 147) :: ([20], [10, 145], 148) :: ([22, 20], [147, 145], 149) :: ([21, 23, 20], [146, 148, 145], 150) :: ([24, 20], [149, 145], 151) :: ([25, 20], [150, 145], 152) :: ([20], [10, 145], 153) :: ([27, 20], [152, 145], 154) :: ([26, 28, 20], [151, 153, 145], 155) :: ([20, 29], [145, 154], 156) :: ([30, 20], [155], 157) :: ([31], [0, 156], 158) :: ([31], [10, 156], 159) :: ([33, 31], [158, 156], 160) :: ([32, 34, 31], [157, 159, 156], 161) :: ([35, 31], [160, 156], 162) :: ([36, 31], [161, 156], 163) :: ([37, 31], [162, 156], 164) :: ([31], [10, 156], 165) :: ([39, 31], [164, 156], 166) :: ([40, 31], [165, 156], 167) :: ([38, 41, 31], [163, 166, 156], 168) :: ([31, 42], [156, 167], 169) :: []) (by kernel_rfl) (by kernel_rfl) (by kernel_rfl) (by kernel_rfl) rfl (by intro _ _ _ _ _ h; exact h) hS.out ?_
              change HL _ _ _ _ _ _ (World.drew _)
              generalize World.drew _ = wd at *
              refine hl_take ?v74 rfl (by kernel_rfl) ?y74 ?z74
              case y74 => intro W hW; skip; replace hW := Lib.hid hW; go_simp; try rfl
              case z74 =>
              simp only [Act.put, List.setIfInBounds_toArray, List.set_cons_succ, List.set_cons_zero, List.getElem_toArray, List.getElem_cons_zero, List.getElem_cons_succ]
              refine hl_take ?v75 rfl (by kernel_rfl) ?y75 ?z75
              case y75 => intro W hW; change Sep W _ at hW; obtain ⟨_, x0, x1, x2, x3, x4, x5, x6, x7, x8, x9, _⟩ := b10 hW; obtain ⟨y0, y1, y2, y3, y4, y5, y6, y7, y8⟩ := het.out; replace y0 := (hW.to2.gold.cell (p := ⟨b, off + t * 9, none⟩) hbl).trans y0; replace y1 := (hW.to2.gold.cell (p := ⟨b, off + t * 9 + 1, none⟩) hbl).trans y1; replace y2 := (hW.to2.gold.cell (p := ⟨b, off + t * 9 + 2, none⟩) hbl).trans y2; replace y3 := (hW.to2.gold.cell (p := ⟨b, off + t * 9 + 3, none⟩) hbl).trans y3; replace y4 := (hW.to2.gold.cell (p := ⟨b, off + t * 9 + 4, none⟩) hbl).trans y4; replace y5 := (hW.to2.gold.cell (p := ⟨b, off + t * 9 + 5, none⟩) hbl).trans y5; replace y6 := (hW.to2.gold.cell (p := ⟨b, off + t * 9 + 6, none⟩) hbl).trans y6; replace y7 := (hW.to2.gold.cell (p := ⟨b, off + t * 9 + 7, none⟩) hbl).trans y7; replace y8 := (hW.to2.gold.cell (p := ⟨b, off + t * 9 + 8, none⟩) hbl).trans y8; replace hW := Lib.hid hW; go_simp; try rfl
              case z75 =>
              simp only [Act.put, List.setIfInBounds_toArray, List.set_cons_succ, List.set_cons_zero, List.getElem_toArray, List.getElem_cons_zero, List.getElem_cons_succ]
              refine hl_take ?v76 rfl (by kernel_rfl) ?y76 ?z76
              case y76 => intro W hW; skip; replace hW := Lib.hid hW; go_simp; try rfl
              case z76 =>
              simp only [Act.put, List.setIfInBounds_toArray, List.set_cons_succ, List.set_cons_zero, List.getElem_toArray, List.getElem_cons_zero, List.getElem_cons_succ]
              refine hl_take ?v77 rfl (by kernel_rfl) ?y77 ?z77
              case y77 => intro W hW; change Sep W _ at hW; obtain ⟨_, x0, x1, x2, x3, x4, x5, x6, x7, x8, x9, _⟩ := b10 hW; obtain ⟨y0, y1, y2, y3, y4, y5, y6, y7, y8⟩ := het.out; replace y0 := (hW.to2.gold.cell (p := ⟨b, off + t * 9, none⟩) hbl).trans y0; replace y1 := (hW.to2.gold.cell (p := ⟨b, off + t * 9 + 1, none⟩) hbl).trans y1; replace y2 := (hW.to2.gold.cell (p := ⟨b, off + t * 9 + 2, none⟩) hbl).trans y2; replace y3 := (hW.to2.gold.cell (p := ⟨b, off + t * 9 + 3, none⟩) hbl).trans y3; replace y4 := (hW.to2.gold.cell (p := ⟨b, off + t * 9 + 4, none⟩) hbl).trans y4; replace y5 := (hW.to2.gold.cell (p := ⟨b, off + t * 9 + 5, none⟩) hbl).trans y5; replace y6 := (hW.to2.gold.cell (p := ⟨b, off + t * 9 + 6, none⟩) hbl).trans y6; replace y7 := (hW.to2.gold.cell (p := ⟨b, off + t * 9 + 7, none⟩) hbl).trans y7; replace y8 := (hW.to2.gold.cell (p := ⟨b, off + t * 9 + 8, none⟩) hbl).trans y8; replace hW := Lib.hid hW; go_simp; try rfl
              case z77 =>
              simp only [Act.put, List.setIfInBounds_toArray, List.set_cons_succ, List.set_cons_zero, List.getElem_toArray, List.getElem_cons_zero, List.getElem_cons_succ]
              refine hl_take ?v78 rfl (by kernel_rfl) ?y78 ?z78
              case y78 => intro W hW; skip; replace hW := Lib.hid hW; go_simp; try rfl
              case z78 =>
              simp only [Act.put, List.setIfInBounds_toArray, List.set_cons_succ, List.set_cons_zero, List.getElem_toArray, List.getElem_cons_zero, List.getElem_cons_succ]
              refine hl_take ?v79 rfl (by kernel_rfl) ?y79 ?z79
              case y79 => intro W hW; skip; replace hW := Lib.hid hW; go_simp; try rfl
              case z79 =>
              simp only [Act.put, List.setIfInBounds_toArray, List.set_cons_succ, List.set_cons_zero, List.getElem_toArray, List.getElem_cons_zero, List.getElem_cons_succ]
              refine hl_take ?v80 rfl (by kernel_rfl) ?y80 ?z80
              case y80 => intro W hW; skip; replace hW := Lib.hid hW; go_simp; try rfl
              case z80 =>
              simp only [Act.put, List.setIfInBounds_toArray, List.set_cons_succ, List.set_cons_zero, List.getElem_toArray, List.getElem_cons_zero, List.getElem_cons_succ]
              refine hl_take ?v81 rfl (by kernel_rfl) ?y81 ?z81
              case y81 => intro W hW; change Sep W _ at hW; obtain ⟨_, x0, x1, x2, x3, x4, x5, x6, x7, x8, x9, _⟩ := b10 hW; obtain ⟨y0, y1, y2, y3, y4, y5, y6, y7, y8⟩ := het.out; replace y0 := (hW.to2.gold.cell (p := ⟨b, off + t * 9, none⟩) hbl).trans y0; replace y1 := (hW.to2.gold.cell (p := ⟨b, off + t * 9 + 1, none⟩) hbl).trans y1; replace y2 := (hW.to2.gold.cell (p := ⟨b, off + t * 9 + 2, none⟩) hbl).trans y2; replace y3 := (hW.to2.gold.cell (p := ⟨b, off + t * 9 + 3, none⟩) hbl).trans y3; replace y4 := (hW.to2.gold.cell (p := ⟨b, off + t * 9 + 4, none⟩) hbl).trans y4; replace y5 := (hW.to2.gold.cell (p := ⟨b, off + t * 9 + 5, none⟩) hbl).trans y5; replace y6 := (hW.to2.gold.cell (p := ⟨b, off + t * 9 + 6, none⟩) hbl).trans y6; replace y7 := (hW.to2.gold.cell (p := ⟨b, off + t * 9 + 7, none⟩) hbl).trans y7; replace y8 := (hW.to2.gold.cell (p := ⟨b, off + t * 9 + 8, none⟩) hbl).trans y8; replace hW := Lib.hid hW; go_simp; try rfl
              case z81 =>
              simp only [Act.put, List.setIfInBounds_toArray, List.set_cons_succ, List.set_cons_zero, List.getElem_toArray, List.getElem_cons_zero, List.getElem_cons_succ]
              refine hl_take ?v82 rfl (by kernel_rfl) ?y82 ?z82
              case y82 => intro W hW; skip; replace hW := Lib.hid hW; go_simp; try rfl
              case z82 =>
              simp only [Act.put, List.setIfInBounds_toArray, List.set_cons_succ, List.set_cons_zero, List.getElem_toArray, List.getElem_cons_zero, List.getElem_cons_succ]
              refine hl_take ?v83 rfl (by kernel_rfl) ?y83 ?z83
              case y83 => intro W hW; skip; replace hW := Lib.hid hW; go_simp; try rfl
              case z83 =>
              simp only [Act.put, List.setIfInBounds_toArray, List.set_cons_succ, List.set_cons_zero, List.getElem_toArray, List.getElem_cons_zero, List.getElem_cons_succ]
              refine hl_take ?v84 rfl (by kernel_rfl) ?y84 ?z84
              case y84 => intro W hW; skip; replace hW := Lib.hid hW; go_simp; try rfl
              case z84 =>
              simp only [Act.put, List.setIfInBounds_toArray, List.set_cons_succ, List.set_cons_zero, List.getElem_toArray, List.getElem_cons_zero, List.getElem_cons_succ]
              refine hl_take ?v85 rfl (by kernel_rfl) ?y85 ?z85
              case y85 => intro W hW; skip; replace hW := Lib.hid hW; go_simp; try rfl
              case z85 =>
              simp only [Act.put, List.setIfInBounds_toArray, List.set_cons_succ, List.set_cons_zero, List.getElem_toArray, List.getElem_cons_zero, List.getElem_cons_succ]
              refine hl_take ?v86 rfl (by kernel_rfl) ?y86 ?z86
              case y86 => intro W hW; skip; replace hW := Lib.hid hW; go_simp; try rfl
              case z86 =>
              simp only [Act.put, List.setIfInBounds_toArray, List.set_cons_succ, List.set_cons_zero, List.getElem_toArray, List.getElem_cons_zero, List.getElem_cons_succ]
              refine hl_take ?v87 rfl (by kernel_rfl) ?y87 ?z87
              case y87 => intro W hW; skip; replace hW := Lib.hid hW; go_simp; try rfl
              case z87 =>
              simp only [Act.put, List.setIfInBounds_toArray, List.set_cons_succ, List.set_cons_zero, List.getElem_toArray, List.getElem_cons_zero, List.getElem_cons_succ]
              refine hl_take ?v88 rfl (by kernel_rfl) ?y88 ?z88
              case y88 => intro W hW; skip; replace hW := Lib.hid hW; go_simp; try rfl
              case z88 =>
              simp only [Act.put, List.setIfInBounds_toArray, List.set_cons_succ, List.set_cons_zero, List.getElem_toArray, List.getElem_cons_zero, List.getElem_cons_succ]
              refine hl_take ?v89 rfl (by kernel_rfl) ?y89 ?z89
              case y89 => intro W hW; change Sep W _ at hW; obtain ⟨_, x0, x1, x2, x3, x4, x5, x6, x7, x8, x9, _⟩ := b10 hW; obtain ⟨y0, y1, y2, y3, y4, y5, y6, y7, y8⟩ := het.out; replace y0 := (hW.to2.gold.cell (p := ⟨b, off + t * 9, none⟩) hbl).trans y0; replace y1 := (hW.to2.gold.cell (p := ⟨b, off + t * 9 + 1, none⟩) hbl).trans y1; replace y2 := (hW.to2.gold.cell (p := ⟨b, off + t * 9 + 2, none⟩) hbl).trans y2; replace y3 := (hW.to2.gold.cell (p := ⟨b, off + t * 9 + 3, none⟩) hbl).trans y3; replace y4 := (hW.to2.gold.cell (p := ⟨b, off + t * 9 + 4, none⟩) hbl).trans y4; replace y5 := (hW.to2.gold.cell (p := ⟨b, off + t * 9 + 5, none⟩) hbl).trans y5; replace y6 := (hW.to2.gold.cell (p := ⟨b, off + t * 9 + 6, none⟩) hbl).trans y6; replace y7 := (hW.to2.gold.cell (p := ⟨b, off + t * 9 + 7, none⟩) hbl).trans y7; replace y8 := (hW.to2.gold.cell (p := ⟨b, off + t * 9 + 8, none⟩) hbl).trans y8; replace hW := Lib.hid hW; go_simp; try rfl
              case z89 =>
              simp only [Act.put, List.setIfInBounds_toArray, List.set_cons_succ, List.set_cons_zero, List.getElem_toArray, List.getElem_cons_zero, List.getElem_cons_succ]
              refine hl_take ?v90 rfl (by kernel_rfl) ?y90 ?z90
              case y90 => intro W hW; skip; replace hW := Lib.hid hW; go_simp; try rfl
              case z90 =>
              simp only [Act.put, List.setIfInBounds_toArray, List.set_cons_succ, List.set_cons_zero, List.getElem_toArray, List.getElem_cons_zero, List.getElem_cons_succ]
              refine hl_take ?v91 rfl (by kernel_rfl) ?y91 ?z91
              case y91 => intro W hW; skip; replace hW := Lib.hid hW; go_simp; try rfl
              case z91 =>
              simp only [Act.put, List.setIfInBounds_toArray, List.set_cons_succ, List.set_cons_zero, List.getElem_toArray, List.getElem_cons_zero, List.getElem_cons_succ]
              refine hl_take ?v92 rfl (by kernel_rfl) ?y92 ?z92
              case y92 => intro W hW; change Sep W _ at hW; obtain ⟨_, x0, x1, x2, x3, x4, x5, x6, x7, x8, x9, _⟩ := b10 hW; obtain ⟨y0, y1, y2, y3, y4, y5, y6, y7, y8⟩ := het.out; replace y0 := (hW.to2.gold.cell (p := ⟨b, off + t * 9, none⟩) hbl).trans y0; replace y1 := (hW.to2.gold.cell (p := ⟨b, off + t * 9 + 1, none⟩) hbl).trans y1; replace y2 := (hW.to2.gold.cell (p := ⟨b, off + t * 9 + 2, none⟩) hbl).trans y2; replace y3 := (hW.to2.gold.cell (p := ⟨b, off + t * 9 + 3, none⟩) hbl).trans y3; replace y4 := (hW.to2.gold.cell (p := ⟨b, off + t * 9 + 4, none⟩) hbl).trans y4; replace y5 := (hW.to2.gold.cell (p := ⟨b, off + t * 9 + 5, none⟩) hbl).trans y5; replace y6 := (hW.to2.gold.cell (p := ⟨b, off + t * 9 + 6, none⟩) hbl).trans y6; replace y7 := (hW.to2.gold.cell (p := ⟨b, off + t * 9 + 7, none⟩) hbl).trans y7; replace y8 := (hW.to2.gold.cell (p := ⟨b, off + t * 9 + 8, none⟩) hbl).trans y8; replace hW := Lib.hid hW; go_simp; try rfl
              case z92 =>
              simp only [Act.put, List.setIfInBounds_toArray, List.set_cons_succ, List.set_cons_zero, List.getElem_toArray, List.getElem_cons_zero, List.getElem_cons_succ]
              refine hl_take ?v93 rfl (by kernel_rfl) ?y93 ?z93
              case y93 => intro W hW; skip; replace hW := Lib.hid hW; go_simp; try rfl
              case z93 =>
              simp only [Act.put, List.setIfInBounds_toArray, List.set_cons_succ, List.set_cons_zero, List.getElem_toArray, List.getElem_cons_zero, List.getElem_cons_succ]
              refine hl_take ?v94 rfl (by kernel_rfl) ?y94 ?z94
              case y94 => intro W hW; skip; replace hW := Lib.hid hW; go_simp; try rfl
              case z94 =>
              simp only [Act.put, List.setIfInBounds_toArray, List.set_cons_succ, List.set_cons_zero, List.getElem_toArray, List.getElem_cons_zero, List.getElem_cons_succ]
              refine hl_take ?v95 rfl (by kernel_rfl) ?y95 ?z95
              case y95 => intro W hW; skip; replace hW := Lib.hid hW; go_simp; try rfl
              case z95 =>
              simp only [Act.put, List.setIfInBounds_toArray, List.set_cons_succ, List.set_cons_zero, List.getElem_toArray, List.getElem_cons_zero, List.getElem_cons_succ]
              refine hl_take ?v96 rfl (by kernel_rfl) ?y96 ?z96
              case y96 => intro W hW; skip; replace hW := Lib.hid hW; go_simp; try rfl
              case z96 =>
              simp only [Act.put, List.setIfInBounds_toArray, List.set_cons_succ, List.set_cons_zero, List.getElem_toArray, List.getElem_cons_zero, List.getElem_cons_succ]
              refine hl_take ?v97 rfl (by kernel_rfl) ?y97 ?z97
              case y97 => intro W hW; change Sep W _ at hW; obtain ⟨_, x0, x1, x2, x3, x4, x5, x6, x7, x8, x9, _⟩ := b10 hW; obtain ⟨y0, y1, y2, y3, y4, y5, y6, y7, y8⟩ := het.out; replace y0 := (hW.to2.gold.cell (p := ⟨b, off + t * 9, none⟩) hbl).trans y0; replace y1 := (hW.to2.gold.cell (p := ⟨b, off + t * 9 + 1, none⟩) hbl).trans y1; replace y2 := (hW.to2.gold.cell (p := ⟨b, off + t * 9 + 2, none⟩) hbl).trans y2; replace y3 := (hW.to2.gold.cell (p := ⟨b, off + t * 9 + 3, none⟩) hbl).trans y3; replace y4 := (hW.to2.gold.cell (p := ⟨b, off + t * 9 + 4, none⟩) hbl).trans y4; replace y5 := (hW.to2.gold.cell (p := ⟨b, off + t * 9 + 5, none⟩) hbl).trans y5; replace y6 := (hW.to2.gold.cell (p := ⟨b, off + t * 9 + 6, none⟩) hbl).trans y6; replace y7 := (hW.to2.gold.cell (p := ⟨b, off + t * 9 + 7, none⟩) hbl).trans y7; replace y8 := (hW.to2.gold.cell (p := ⟨b, off + t * 9 + 8, none⟩) hbl).trans y8; replace hW := Lib.hid hW; go_simp; try rfl
              case z97 =>
              simp only [Act.put, List.setIfInBounds_toArray, List.set_cons_succ, List.set_cons_zero, List.getElem_toArray, List.getElem_cons_zero, List.getElem_cons_succ]
              refine hl_take ?v98 rfl (by kernel_rfl) ?y98 ?z98
              case y98 => intro W hW; skip; replace hW := Lib.hid hW; go_simp; try rfl
              case z98 =>
              simp only [Act.put, List.setIfInBounds_toArray, List.set_cons_succ, List.set_cons_zero, List.getElem_toArray, List.getElem_cons_zero, List.getElem_cons_succ]
              refine hl_take ?v99 rfl (by kernel_rfl) ?y99 ?z99
              case y99 => intro W hW; skip; replace hW := Lib.hid hW; go_simp; try rfl
              case z99 =>
              simp only [Act.put, List.setIfInBounds_toArray, List.set_cons_succ, List.set_cons_zero, List.getElem_toArray, List.getElem_cons_zero, List.getElem_cons_succ]
              refine hl_take ?v100 rfl (by kernel_rfl) ?y100 ?z100
              case y100 => intro W hW; change Sep W _ at hW; obtain ⟨_, x0, x1, x2, x3, x4, x5, x6, x7, x8, x9, _⟩ := b10 hW; obtain ⟨y0, y1, y2, y3, y4, y5, y6, y7, y8⟩ := het.out; replace y0 := (hW.to2.gold.cell (p := ⟨b, off + t * 9, none⟩) hbl).trans y0; replace y1 := (hW.to2.gold.cell (p := ⟨b, off + t * 9 + 1, none⟩) hbl).trans y1; replace y2 := (hW.to2.gold.cell (p := ⟨b, off + t * 9 + 2, none⟩) hbl).trans y2; replace y3 := (hW.to2.gold.cell (p := ⟨b, off + t * 9 + 3, none⟩) hbl).trans y3; replace y4 := (hW.to2.gold.cell (p := ⟨b, off + t * 9 + 4, none⟩) hbl).trans y4; replace y5 := (hW.to2.gold.cell (p := ⟨b, off + t * 9 + 5, none⟩) hbl).trans y5; replace y6 := (hW.to2.gold.cell (p := ⟨b, off + t * 9 + 6, none⟩) hbl).trans y6; replace y7 := (hW.to2.gold.cell (p := ⟨b, off + t * 9 + 7, none⟩) hbl).trans y7; replace y8 := (hW.to2.gold.cell (p := ⟨b, off + t * 9 + 8, none⟩) hbl).trans y8; replace hW := Lib.hid hW; go_simp; try rfl
              case z100 =>
              simp only [Act.put, List.setIfInBounds_toArray, List.set_cons_succ, List.set_cons_zero, List.getElem_toArray, List.getElem_cons_zero, List.getElem_cons_succ]
              refine hl_take ?v101 rfl (by kernel_rfl) ?y101 ?z101
              case y101 => intro W hW; skip; replace hW := Lib.hid hW; go_simp; try rfl
              case z101 =>
              simp only [Act.put, List.setIfInBounds_toArray, List.set_cons_succ, List.set_cons_zero, List.getElem_toArray, List.getElem_cons_zero, List.getElem_cons_succ]
              refine hl_take ?v102 rfl (by kernel_rfl) ?y102 ?z102
              case y102 => intro W hW; change Sep W _ at hW; obtain ⟨_, x0, x1, x2, x3, x4, x5, x6, x7, x8, x9, _⟩ := b10 hW; obtain ⟨y0, y1, y2, y3, y4, y5, y6, y7, y8⟩ := het.out; replace y0 := (hW.to2.gold.cell (p := ⟨b, off + t * 9, none⟩) hbl).trans y0; replace y1 := (hW.to2.gold.cell (p := ⟨b, off + t * 9 + 1, none⟩) hbl).trans y1; replace y2 := (hW.to2.gold.cell (p := ⟨b, off + t * 9 + 2, none⟩) hbl).trans y2; replace y3 := (hW.to2.gold.cell (p := ⟨b, off + t * 9 + 3, none⟩) hbl).trans y3; replace y4 := (hW.to2.gold.cell (p := ⟨b, off + t * 9 + 4, none⟩) hbl).trans y4; replace y5 := (hW.to2.gold.cell (p := ⟨b, off + t * 9 + 5, none⟩) hbl).trans y5; replace y6 := (hW.to2.gold.cell (p := ⟨b, off + t * 9 + 6, none⟩) hbl).trans y6; replace y7 := (hW.to2.gold.cell (p := ⟨b, off + t * 9 + 7, none⟩) hbl).trans y7; replace y8 := (hW.to2.gold.cell (p := ⟨b, off + t * 9 + 8, none⟩) hbl).trans y8; replace hW := Lib.hid hW; go_simp; try rfl
              case z102 =>
              simp only [Act.put, List.setIfInBounds_toArray, List.set_cons_succ, List.set_cons_zero, List.getElem_toArray, List.getElem_cons_zero, List.getElem_cons_succ]
              refine hl_take ?v103 rfl (by kernel_rfl) ?y103 ?z103
              case y103 => intro W hW; skip; replace hW := Lib.hid hW; go_simp; try rfl
              case z103 =>
              simp only [Act.put, List.setIfInBounds_toArray, List.set_cons_succ, List.set_cons_zero, List.getElem_toArray, List.getElem_cons_zero, List.getElem_cons_succ]
              refine hl_take ?v104 rfl (by kernel_rfl) ?y104 ?z104
              case y104 => intro W hW; skip; replace hW := Lib.hid hW; go_simp; try rfl
              case z104 =>
              simp only [Act.put, List.setIfInBounds_toArray, List.set_cons_succ, List.set_cons_zero, List.getElem_toArray, List.getElem_cons_zero, List.getElem_cons_succ]
              refine hl_take ?v105 rfl (by kernel_rfl) ?y105 ?z105
              case y105 => intro W hW; skip; replace hW := Lib.hid hW; go_simp; try rfl
              case z105 =>
              simp only [Act.put, List.setIfInBounds_toArray, List.set_cons_succ, List.set_cons_zero, List.getElem_toArray, List.getElem_cons_zero, List.getElem_cons_succ]
              refine hl_take ?v106 rfl (by kernel_rfl) ?y106 ?z106
              case y106 => intro W hW; skip; replace hW := Lib.hid hW; go_simp; try rfl
              case z106 =>
              simp only [Act.put, List.setIfInBounds_toArray, List.set_cons_succ, List.set_cons_zero, List.getElem_toArray, List.getElem_cons_zero, List.getElem_cons_succ]
              refine hl_take ?v107 rfl (by kernel_rfl) ?y107 ?z107
              case y107 => intro W hW; skip; replace hW := Lib.hid hW; go_simp; try rfl
              case z107 =>
              simp only [Act.put, List.setIfInBounds_toArray, List.set_cons_succ, List.set_cons_zero, List.getElem_toArray, List.getElem_cons_zero, List.getElem_cons_succ]
              refine hl_take ?v108 rfl (by kernel_rfl) ?y108 ?z108
              case y108 => intro W hW; change Sep W _ at hW; obtain ⟨_, x0, x1, x2, x3, x4, x5, x6, x7, x8, x9, _⟩ := b10 hW; obtain ⟨y0, y1, y2, y3, y4, y5, y6, y7, y8⟩ := het.out; replace y0 := (hW.to2.gold.cell (p := ⟨b, off + t * 9, none⟩) hbl).trans y0; replace y1 := (hW.to2.gold.cell (p := ⟨b, off + t * 9 + 1, none⟩) hbl).trans y1; replace y2 := (hW.to2.gold.cell (p := ⟨b, off + t * 9 + 2, none⟩) hbl).trans y2; replace y3 := (hW.to2.gold.cell (p := ⟨b, off + t * 9 + 3, none⟩) hbl).trans y3; replace y4 := (hW.to2.gold.cell (p := ⟨b, off + t * 9 + 4, none⟩) hbl).trans y4; replace y5 := (hW.to2.gold.cell (p := ⟨b, off + t * 9 + 5, none⟩) hbl).trans y5; replace y6 := (hW.to2.gold.cell (p := ⟨b, off + t * 9 + 6, none⟩) hbl).trans y6; replace y7 := (hW.to2.gold.cell (p := ⟨b, off + t * 9 + 7, none⟩) hbl).trans y7; replace y8 := (hW.to2.gold.cell (p := ⟨b, off + t * 9 + 8, none⟩) hbl).trans y8; replace hW := Lib.hid hW; go_simp; try rfl
              case z108 =>
              simp only [Act.put, List.setIfInBounds_toArray, List.set_cons_succ, List.set_cons_zero, List.getElem_toArray, List.getElem_cons_zero, List.getElem_cons_succ]
              refine hl_take ?v109 rfl (by kernel_rfl) ?y109 ?z109
              case y109 => intro W hW; skip; replace hW := Lib.hid hW; go_simp; try rfl
              case z109 =>
              simp only [Act.put, List.setIfInBounds_toArray, List.set_cons_succ, List.set_cons_zero, List.getElem_toArray, List.getElem_cons_zero, List.getElem_cons_succ]
              refine hl_take ?v110 rfl (by kernel_rfl) ?y110 ?z110
              case y110 => intro W hW; skip; replace hW := Lib.hid hW; go_simp; try rfl
              case z110 =>
              simp only [Act.put, List.setIfInBounds_toArray, List.set_cons_succ, List.set_cons_zero, List.getElem_toArray, List.getElem_cons_zero, List.getElem_cons_succ]
              refine hl_take ?v111 rfl (by kernel_rfl) ?y111 ?z111
              case y111 => intro W hW; skip; replace hW := Lib.hid hW; go_simp; try rfl
              case z111 =>
              simp only [Act.put, List.setIfInBounds_toArray, List.set_cons_succ, List.set_cons_zero, List.getElem_toArray, List.getElem_cons_zero, List.getElem_cons_succ]
              refine hl_take ?v112 rfl (by kernel_rfl) ?y112 ?z112
              case y112 => intro W hW; change Sep W _ at hW; obtain ⟨_, x0, x1, x2, x3, x4, x5, x6, x7, x8, x9, _⟩ := b10 hW; obtain ⟨y0, y1, y2, y3, y4, y5, y6, y7, y8⟩ := het.out; replace y0 := (hW.to2.gold.cell (p := ⟨b, off + t * 9, none⟩) hbl).trans y0; replace y1 := (hW.to2.gold.cell (p := ⟨b, off + t * 9 + 1, none⟩) hbl).trans y1; replace y2 := (hW.to2.gold.cell (p := ⟨b, off + t * 9 + 2, none⟩) hbl).trans y2; replace y3 := (hW.to2.gold.cell (p := ⟨b, off + t * 9 + 3, none⟩) hbl).trans y3; replace y4 := (hW.to2.gold.cell (p := ⟨b, off + t * 9 + 4, none⟩) hbl).trans y4; replace y5 := (hW.to2.gold.cell (p := ⟨b, off + t * 9 + 5, none⟩) hbl).trans y5; replace y6 := (hW.to2.gold.cell (p := ⟨b, off + t * 9 + 6, none⟩) hbl).trans y6; replace y7 := (hW.to2.gold.cell (p := ⟨b, off + t * 9 + 7, none⟩) hbl).trans y7; replace y8 := (hW.to2.gold.cell (p := ⟨b, off + t * 9 + 8, none⟩) hbl).trans y8; replace hW := Lib.hid hW; go_simp; try rfl
              case z112 =>
              simp only [Act.put, List.setIfInBounds_toArray, List.set_cons_succ, List.set_cons_zero, List.getElem_toArray, List.getElem_cons_zero, List.getElem_cons_succ]
              refine hl_take ?v113 rfl (by kernel_rfl) ?y113 ?z113
              case y113 => intro W hW; skip; replace hW := Lib.hid hW; go_simp; try rfl
              case z113 =>
              simp only [Act.put, List.setIfInBounds_toArray, List.set_cons_succ, List.set_cons_zero, List.getElem_toArray, List.getElem_cons_zero, List.getElem_cons_succ]
              refine hl_take ?v114 rfl (by kernel_rfl) ?y114 ?z114
              case y114 => intro W hW; skip; replace hW := Lib.hid hW; go_simp; try rfl
              case z114 =>
              simp only [Act.put, List.setIfInBounds_toArray, List.set_cons_succ, List.set_cons_zero, List.getElem_toArray, List.getElem_cons_zero, List.getElem_cons_succ]
              refine hl_take ?v115 rfl (by kernel_rfl) ?y115 ?z115
              case y115 => intro W hW; change Sep W _ at hW; obtain ⟨_, x0, x1, x2, x3, x4, x5, x6, x7, x8, x9, _⟩ := b10 hW; obtain ⟨y0, y1, y2, y3, y4, y5, y6, y7, y8⟩ := het.out; replace y0 := (hW.to2.gold.cell (p := ⟨b, off + t * 9, none⟩) hbl).trans y0; replace y1 := (hW.to2.gold.cell (p := ⟨b, off + t * 9 + 1, none⟩) hbl).trans y1; replace y2 := (hW.to2.gold.cell (p := ⟨b, off + t * 9 + 2, none⟩) hbl).trans y2; replace y3 := (hW.to2.gold.cell (p := ⟨b, off + t * 9 + 3, none⟩) hbl).trans y3; replace y4 := (hW.to2.gold.cell (p := ⟨b, off + t * 9 + 4, none⟩) hbl).trans y4; replace y5 := (hW.to2.gold.cell (p := ⟨b, off + t * 9 + 5, none⟩) hbl).trans y5; replace y6 := (hW.to2.gold.cell (p := ⟨b, off + t * 9 + 6, none⟩) hbl).trans y6; replace y7 := (hW.to2.gold.cell (p := ⟨b, off + t * 9 + 7, none⟩) hbl).trans y7; replace y8 := (hW.to2.gold.cell (p := ⟨b, off + t * 9 + 8, none⟩) hbl).trans y8; replace hW := Lib.hid hW; go_simp; try rfl
              case z115 =>
              simp only [Act.put, List.setIfInBounds_toArray, List.set_cons_succ, List.set_cons_zero, List.getElem_toArray, List.getElem_cons_zero, List.getElem_cons_succ]
              refine hl_take ?v116 rfl (by kernel_rfl) ?y116 ?z116
              case y116 => intro W hW; skip; replace hW := Lib.hid hW; go_simp; try rfl
              case z116 =>
              simp only [Act.put, List.setIfInBounds_toArray, List.set_cons_succ, List.set_cons_zero, List.getElem_toArray, List.getElem_cons_zero, List.getElem_cons_succ]
              refine hl_take ?v117 rfl (by kernel_rfl) ?y117 ?z117
              case y117 => intro W hW; skip; replace hW := Lib.hid hW; go_simp; try rfl
              case z117 =>
              simp only [Act.put, List.setIfInBounds_toArray, List.set_cons_succ, List.set_cons_zero, List.getElem_toArray, List.getElem_cons_zero, List.getElem_cons_succ]
              refine hl_done ?_
              clear hB
              replace hB := hS
              clear hS
              go_wp2_with fail
              go_loopw [11] (fun x wr => ∃ k : Nat, k ≤ i ∧ x = .int .i64 k ∧ Hid (Sep wr [blk xb 36 #[.int .i64 call, .int .i64 thread, .int .i64 (f : Int), .int .i64 (t : Int), .int .i64 kind, .int .i64 txn, .int .i64 t_, .int .i64 r_, .int .i64 mode, .int .i64 code], vec 36 10 (.slice (some ⟨g, 0, none⟩) n sc) n (scells S), old w])) (fun x _ => i - (intOf x).toNat)
              case atStart => exact ⟨0, Nat.zero_le _, rfl, hB⟩
              case round =>
                clear hB
                obtain ⟨k, hk, rfl, hB⟩ := hrel
                by_cases hki : k < i
                · have i3 : (0 : Int) ≤ (k : Int) := by omega
                  have i4 : (k : Int) < (n : Int) := by omega
                  have i5 : (k : Int) < (i : Int) := by omega
                  obtain ⟨u, hu⟩ : ∃ u, S[k]? = some u := ⟨S[k]'(by rw [hnS.out]; omega), List.getElem?_eq_getElem _⟩
                  have hap := hapart.out k u hki hu
                  have HBf := Lib.hid (fun W => before_any u ⟨call, thread, (f : Int), (t : Int), ⟨kind, txn, t_, r_, mode, code⟩⟩ W)
                  replace hu := Lib.hid hu
                  by_cases hth : u.thread = thread
                  · have hb := hap hth
                    rw [hb] at HBf
                    replace HBf := Lib.hid HBf.out
                    have hthb : (u.thread == thread) = true := by rw [hth]; simp
                    clear hap hb hth
                    go_wp2_with fail
                    have hS := Lib.hid (show (fun W : World => Sep W [blk xb 36 #[.int .i64 call, .int .i64 thread, .int .i64 (f : Int), .int .i64 (t : Int), .int .i64 kind, .int .i64 txn, .int .i64 t_, .int .i64 r_, .int .i64 mode, .int .i64 code], vec 36 10 (.slice (some ⟨g, 0, none⟩) n sc) n (scells S), old w]) _ from hB.out.drew)
                    refine hl_begin (fun W : World => Sep W [blk xb 36 #[.int .i64 call, .int .i64 thread, .int .i64 (f : Int), .int .i64 (t : Int), .int .i64 kind, .int .i64 txn, .int .i64 t_, .int .i64 r_, .int .i64 mode, .int .i64 code], vec 36 10 (.slice (some ⟨g, 0, none⟩) n sc) n (scells S), old w]) [(0, true), (1, true), (2, true), (3, true), (4, true), (5, true), (6, true), (7, true), (8, true), (9, true), (10, true), (11, true), (12, true), (13, true), (14, false), (15, true), (16, true)] (by kernel_rfl) (by kernel_rfl) (by kernel_rfl) rfl (fun _ _ _ _ _ h => h) hS.out ?_
                    change HL _ _ _ _ _ _ (World.drew _)
                    generalize World.drew _ = wd at *
                    refine hl_take ?v118 rfl (by kernel_rfl) ?y118 ?z118
                    case y118 => intro W hW; skip; replace hW := Lib.hid hW; go_simp; try rfl
                    case z118 =>
                    simp only [Act.put, List.setIfInBounds_toArray, List.set_cons_succ, List.set_cons_zero, List.getElem_toArray, List.getElem_cons_zero, List.getElem_cons_succ]
                    refine hl_take ?v119 rfl (by kernel_rfl) ?y119 ?z119
                    case y119 => intro W hW; skip; replace hW := Lib.hid hW; go_simp; try rfl
                    case z119 =>
                    simp only [Act.put, List.setIfInBounds_toArray, List.set_cons_succ, List.set_cons_zero, List.getElem_toArray, List.getElem_cons_zero, List.getElem_cons_succ]
                    refine hl_take ?v120 rfl (by kernel_rfl) ?y120 ?z120
                    case y120 => intro W hW; skip; replace hW := Lib.hid hW; go_simp; try rfl
                    case z120 =>
                    simp only [Act.put, List.setIfInBounds_toArray, List.set_cons_succ, List.set_cons_zero, List.getElem_toArray, List.getElem_cons_zero, List.getElem_cons_succ]
                    refine hl_take ?v121 rfl (by kernel_rfl) ?y121 ?z121
                    case y121 => intro W hW; skip; replace hW := Lib.hid hW; go_simp; try rfl
                    case z121 =>
                    simp only [Act.put, List.setIfInBounds_toArray, List.set_cons_succ, List.set_cons_zero, List.getElem_toArray, List.getElem_cons_zero, List.getElem_cons_succ]
                    refine hl_take ?v122 rfl (by kernel_rfl) ?y122 ?z122
                    case y122 => intro W hW; change Sep W _ at hW; obtain ⟨_, x0, x1, x2, x3, x4, x5, x6, x7, x8, x9, _⟩ := b10 hW; obtain ⟨y0, y1, y2, y3, y4, y5, y6, y7, y8, y9⟩ := sp10 hu.out; replace y0 := (hW.to1.vec_cell y0).1; replace y1 := (hW.to1.vec_cell y1).1; replace y2 := (hW.to1.vec_cell y2).1; replace y3 := (hW.to1.vec_cell y3).1; replace y4 := (hW.to1.vec_cell y4).1; replace y5 := (hW.to1.vec_cell y5).1; replace y6 := (hW.to1.vec_cell y6).1; replace y7 := (hW.to1.vec_cell y7).1; replace y8 := (hW.to1.vec_cell y8).1; replace y9 := (hW.to1.vec_cell y9).1; replace hW := Lib.hid hW; go_simp; try rfl
                    case z122 =>
                    simp only [Act.put, List.setIfInBounds_toArray, List.set_cons_succ, List.set_cons_zero, List.getElem_toArray, List.getElem_cons_zero, List.getElem_cons_succ]
                    refine hl_take ?v123 rfl (by kernel_rfl) ?y123 ?z123
                    case y123 => intro W hW; skip; replace hW := Lib.hid hW; go_simp; try rfl
                    case z123 =>
                    simp only [Act.put, List.setIfInBounds_toArray, List.set_cons_succ, List.set_cons_zero, List.getElem_toArray, List.getElem_cons_zero, List.getElem_cons_succ]
                    refine hl_take ?v124 rfl (by kernel_rfl) ?y124 ?z124
                    case y124 => intro W hW; change Sep W _ at hW; obtain ⟨_, x0, x1, x2, x3, x4, x5, x6, x7, x8, x9, _⟩ := b10 hW; obtain ⟨y0, y1, y2, y3, y4, y5, y6, y7, y8, y9⟩ := sp10 hu.out; replace y0 := (hW.to1.vec_cell y0).1; replace y1 := (hW.to1.vec_cell y1).1; replace y2 := (hW.to1.vec_cell y2).1; replace y3 := (hW.to1.vec_cell y3).1; replace y4 := (hW.to1.vec_cell y4).1; replace y5 := (hW.to1.vec_cell y5).1; replace y6 := (hW.to1.vec_cell y6).1; replace y7 := (hW.to1.vec_cell y7).1; replace y8 := (hW.to1.vec_cell y8).1; replace y9 := (hW.to1.vec_cell y9).1; replace hW := Lib.hid hW; go_simp; try rfl
                    case z124 =>
                    simp only [Act.put, List.setIfInBounds_toArray, List.set_cons_succ, List.set_cons_zero, List.getElem_toArray, List.getElem_cons_zero, List.getElem_cons_succ]
                    refine hl_take ?v125 rfl (by kernel_rfl) ?y125 ?z125
                    case y125 => intro W hW; skip; replace hW := Lib.hid hW; go_simp; try rfl
                    case z125 =>
                    simp only [Act.put, List.setIfInBounds_toArray, List.set_cons_succ, List.set_cons_zero, List.getElem_toArray, List.getElem_cons_zero, List.getElem_cons_succ]
                    refine hl_take ?v126 rfl (by kernel_rfl) ?y126 ?z126
                    case y126 => intro W hW; skip; replace hW := Lib.hid hW; go_simp; try rfl
                    case z126 =>
                    simp only [Act.put, List.setIfInBounds_toArray, List.set_cons_succ, List.set_cons_zero, List.getElem_toArray, List.getElem_cons_zero, List.getElem_cons_succ]
                    refine hl_take ?v127 rfl (by kernel_rfl) ?y127 ?z127
                    case y127 => intro W hW; skip; replace hW := Lib.hid hW; go_simp; try rfl
                    case z127 =>
                    simp only [Act.put, List.setIfInBounds_toArray, List.set_cons_succ, List.set_cons_zero, List.getElem_toArray, List.getElem_cons_zero, List.getElem_cons_succ]
                    refine hl_take ?v128 rfl (by kernel_rfl) ?y128 ?z128
                    case y128 => intro W hW; skip; replace hW := Lib.hid hW; go_simp; try rfl
                    case z128 =>
                    simp only [Act.put, List.setIfInBounds_toArray, List.set_cons_succ, List.set_cons_zero, List.getElem_toArray, List.getElem_cons_zero, List.getElem_cons_succ]
                    refine hl_take ?v129 rfl (by kernel_rfl) ?y129 ?z129
                    case y129 => intro W hW; skip; replace hW := Lib.hid hW; go_simp; try rfl
                    case z129 =>
                    simp only [Act.put, List.setIfInBounds_toArray, List.set_cons_succ, List.set_cons_zero, List.getElem_toArray, List.getElem_cons_zero, List.getElem_cons_succ]
                    refine hl_take ?v130 rfl (by kernel_rfl) ?y130 ?z130
                    case y130 => intro W hW; change Sep W _ at hW; obtain ⟨_, x0, x1, x2, x3, x4, x5, x6, x7, x8, x9, _⟩ := b10 hW; obtain ⟨y0, y1, y2, y3, y4, y5, y6, y7, y8, y9⟩ := sp10 hu.out; replace y0 := (hW.to1.vec_cell y0).1; replace y1 := (hW.to1.vec_cell y1).1; replace y2 := (hW.to1.vec_cell y2).1; replace y3 := (hW.to1.vec_cell y3).1; replace y4 := (hW.to1.vec_cell y4).1; replace y5 := (hW.to1.vec_cell y5).1; replace y6 := (hW.to1.vec_cell y6).1; replace y7 := (hW.to1.vec_cell y7).1; replace y8 := (hW.to1.vec_cell y8).1; replace y9 := (hW.to1.vec_cell y9).1; replace hW := Lib.hid hW; go_simp; try rfl
                    case z130 =>
                    simp only [Act.put, List.setIfInBounds_toArray, List.set_cons_succ, List.set_cons_zero, List.getElem_toArray, List.getElem_cons_zero, List.getElem_cons_succ]
                    refine hl_take ?v131 rfl (by kernel_rfl) ?y131 ?z131
                    case y131 => intro W hW; change Sep W _ at hW; obtain ⟨_, x0, x1, x2, x3, x4, x5, x6, x7, x8, x9, _⟩ := b10 hW; obtain ⟨y0, y1, y2, y3, y4, y5, y6, y7, y8, y9⟩ := sp10 hu.out; replace y0 := (hW.to1.vec_cell y0).1; replace y1 := (hW.to1.vec_cell y1).1; replace y2 := (hW.to1.vec_cell y2).1; replace y3 := (hW.to1.vec_cell y3).1; replace y4 := (hW.to1.vec_cell y4).1; replace y5 := (hW.to1.vec_cell y5).1; replace y6 := (hW.to1.vec_cell y6).1; replace y7 := (hW.to1.vec_cell y7).1; replace y8 := (hW.to1.vec_cell y8).1; replace y9 := (hW.to1.vec_cell y9).1; replace hW := Lib.hid hW; go_simp; try rfl
                    case z131 =>
                    simp only [Act.put, List.setIfInBounds_toArray, List.set_cons_succ, List.set_cons_zero, List.getElem_toArray, List.getElem_cons_zero, List.getElem_cons_succ]
                    refine hl_one rfl (by kernel_rfl) (fun K hK => ?_)
                    go_simp
                    refine (HBf.out _).mono ?_
                    rintro e w1 ⟨rfl, q1⟩
                    replace hS := Lib.hid (hS.out.below q1)
                    clear q1
                    refine hK.out _ _ hS.out ?_
                    clear hK K
                    try simp only [Act.put, List.setIfInBounds_toArray, List.set_cons_succ, List.set_cons_zero, List.getElem_toArray, List.getElem_cons_zero, List.getElem_cons_succ]
                    refine hl_take ?v132 rfl (by kernel_rfl) ?y132 ?z132
                    case y132 => intro W hW; skip; replace hW := Lib.hid hW; go_simp; try rfl
                    case z132 =>
                    simp only [Act.put, List.setIfInBounds_toArray, List.set_cons_succ, List.set_cons_zero, List.getElem_toArray, List.getElem_cons_zero, List.getElem_cons_succ]
                    refine hl_take ?v133 rfl (by kernel_rfl) ?y133 ?z133
                    case y133 => intro W hW; skip; replace hW := Lib.hid hW; go_simp; try rfl
                    case z133 =>
                    simp only [Act.put, List.setIfInBounds_toArray, List.set_cons_succ, List.set_cons_zero, List.getElem_toArray, List.getElem_cons_zero, List.getElem_cons_succ]
                    refine hl_done ?_
                    clear hB
                    replace hB := hS
                    clear hS
                    go_wp2_with fail
                    go_roundw
                    case rel => exact ⟨k + 1, by omega, by go_num, hB⟩
                    case measure => simp [intOf]; omega
                  · have hthb : (u.thread == thread) = false := beq_eq_false_iff_ne.2 hth
                    clear hap hth HBf
                    go_wp2_with fail
                    have hS := Lib.hid (show (fun W : World => Sep W [blk xb 36 #[.int .i64 call, .int .i64 thread, .int .i64 (f : Int), .int .i64 (t : Int), .int .i64 kind, .int .i64 txn, .int .i64 t_, .int .i64 r_, .int .i64 mode, .int .i64 code], vec 36 10 (.slice (some ⟨g, 0, none⟩) n sc) n (scells S), old w]) _ from hB.out.drew)
                    refine hl_begin (fun W : World => Sep W [blk xb 36 #[.int .i64 call, .int .i64 thread, .int .i64 (f : Int), .int .i64 (t : Int), .int .i64 kind, .int .i64 txn, .int .i64 t_, .int .i64 r_, .int .i64 mode, .int .i64 code], vec 36 10 (.slice (some ⟨g, 0, none⟩) n sc) n (scells S), old w]) [(0, true), (1, true), (2, true), (3, true), (4, true), (5, true), (6, true), (7, true), (8, true), (9, true), (10, true), (11, true), (12, true), (13, true), (14, false), (15, true), (16, true)] (by kernel_rfl) (by kernel_rfl) (by kernel_rfl) rfl (fun _ _ _ _ _ h => h) hS.out ?_
                    change HL _ _ _ _ _ _ (World.drew _)
                    generalize World.drew _ = wd at *
                    refine hl_take ?v134 rfl (by kernel_rfl) ?y134 ?z134
                    case y134 => intro W hW; skip; replace hW := Lib.hid hW; go_simp; try rfl
                    case z134 =>
                    simp only [Act.put, List.setIfInBounds_toArray, List.set_cons_succ, List.set_cons_zero, List.getElem_toArray, List.getElem_cons_zero, List.getElem_cons_succ]
                    refine hl_take ?v135 rfl (by kernel_rfl) ?y135 ?z135
                    case y135 => intro W hW; skip; replace hW := Lib.hid hW; go_simp; try rfl
                    case z135 =>
                    simp only [Act.put, List.setIfInBounds_toArray, List.set_cons_succ, List.set_cons_zero, List.getElem_toArray, List.getElem_cons_zero, List.getElem_cons_succ]
                    refine hl_take ?v136 rfl (by kernel_rfl) ?y136 ?z136
                    case y136 => intro W hW; skip; replace hW := Lib.hid hW; go_simp; try rfl
                    case z136 =>
                    simp only [Act.put, List.setIfInBounds_toArray, List.set_cons_succ, List.set_cons_zero, List.getElem_toArray, List.getElem_cons_zero, List.getElem_cons_succ]
                    refine hl_take ?v137 rfl (by kernel_rfl) ?y137 ?z137
                    case y137 => intro W hW; skip; replace hW := Lib.hid hW; go_simp; try rfl
                    case z137 =>
                    simp only [Act.put, List.setIfInBounds_toArray, List.set_cons_succ, List.set_cons_zero, List.getElem_toArray, List.getElem_cons_zero, List.getElem_cons_succ]
                    refine hl_take ?v138 rfl (by kernel_rfl) ?y138 ?z138
                    case y138 => intro W hW; change Sep W _ at hW; obtain ⟨_, x0, x1, x2, x3, x4, x5, x6, x7, x8, x9, _⟩ := b10 hW; obtain ⟨y0, y1, y2, y3, y4, y5, y6, y7, y8, y9⟩ := sp10 hu.out; replace y0 := (hW.to1.vec_cell y0).1; replace y1 := (hW.to1.vec_cell y1).1; replace y2 := (hW.to1.vec_cell y2).1; replace y3 := (hW.to1.vec_cell y3).1; replace y4 := (hW.to1.vec_cell y4).1; replace y5 := (hW.to1.vec_cell y5).1; replace y6 := (hW.to1.vec_cell y6).1; replace y7 := (hW.to1.vec_cell y7).1; replace y8 := (hW.to1.vec_cell y8).1; replace y9 := (hW.to1.vec_cell y9).1; replace hW := Lib.hid hW; go_simp; try rfl
                    case z138 =>
                    simp only [Act.put, List.setIfInBounds_toArray, List.set_cons_succ, List.set_cons_zero, List.getElem_toArray, List.getElem_cons_zero, List.getElem_cons_succ]
                    refine hl_take ?v139 rfl (by kernel_rfl) ?y139 ?z139
                    case y139 => intro W hW; skip; replace hW := Lib.hid hW; go_simp; try rfl
                    case z139 =>
                    simp only [Act.put, List.setIfInBounds_toArray, List.set_cons_succ, List.set_cons_zero, List.getElem_toArray, List.getElem_cons_zero, List.getElem_cons_succ]
                    refine hl_take ?v140 rfl (by kernel_rfl) ?y140 ?z140
                    case y140 => intro W hW; change Sep W _ at hW; obtain ⟨_, x0, x1, x2, x3, x4, x5, x6, x7, x8, x9, _⟩ := b10 hW; obtain ⟨y0, y1, y2, y3, y4, y5, y6, y7, y8, y9⟩ := sp10 hu.out; replace y0 := (hW.to1.vec_cell y0).1; replace y1 := (hW.to1.vec_cell y1).1; replace y2 := (hW.to1.vec_cell y2).1; replace y3 := (hW.to1.vec_cell y3).1; replace y4 := (hW.to1.vec_cell y4).1; replace y5 := (hW.to1.vec_cell y5).1; replace y6 := (hW.to1.vec_cell y6).1; replace y7 := (hW.to1.vec_cell y7).1; replace y8 := (hW.to1.vec_cell y8).1; replace y9 := (hW.to1.vec_cell y9).1; replace hW := Lib.hid hW; go_simp; try rfl
                    case z140 =>
                    simp only [Act.put, List.setIfInBounds_toArray, List.set_cons_succ, List.set_cons_zero, List.getElem_toArray, List.getElem_cons_zero, List.getElem_cons_succ]
                    refine hl_take ?v141 rfl (by kernel_rfl) ?y141 ?z141
                    case y141 => intro W hW; skip; replace hW := Lib.hid hW; go_simp; try rfl
                    case z141 =>
                    simp only [Act.put, List.setIfInBounds_toArray, List.set_cons_succ, List.set_cons_zero, List.getElem_toArray, List.getElem_cons_zero, List.getElem_cons_succ]
                    refine hl_take ?v142 rfl (by kernel_rfl) ?y142 ?z142
                    case y142 => intro W hW; skip; replace hW := Lib.hid hW; go_simp; try rfl
                    case z142 =>
                    simp only [Act.put, List.setIfInBounds_toArray, List.set_cons_succ, List.set_cons_zero, List.getElem_toArray, List.getElem_cons_zero, List.getElem_cons_succ]
                    refine hl_skip rfl (by kernel_rfl) ?_
                    simp only [Act.put, List.setIfInBounds_toArray, List.set_cons_succ, List.set_cons_zero, List.getElem_toArray, List.getElem_cons_zero, List.getElem_cons_succ]
                    refine hl_skip rfl (by kernel_rfl) ?_
                    simp only [Act.put, List.setIfInBounds_toArray, List.set_cons_succ, List.set_cons_zero, List.getElem_toArray, List.getElem_cons_zero, List.getElem_cons_succ]
                    refine hl_skip rfl (by kernel_rfl) ?_
                    simp only [Act.put, List.setIfInBounds_toArray, List.set_cons_succ, List.set_cons_zero, List.getElem_toArray, List.getElem_cons_zero, List.getElem_cons_succ]
                    refine hl_skip rfl (by kernel_rfl) ?_
                    simp only [Act.put, List.setIfInBounds_toArray, List.set_cons_succ, List.set_cons_zero, List.getElem_toArray, List.getElem_cons_zero, List.getElem_cons_succ]
                    refine hl_skip rfl (by kernel_rfl) ?_
                    simp only [Act.put, List.setIfInBounds_toArray, List.set_cons_succ, List.set_cons_zero, List.getElem_toArray, List.getElem_cons_zero, List.getElem_cons_succ]
                    refine hl_skip1 rfl (by kernel_rfl) ?_
                    simp only [Act.put, List.setIfInBounds_toArray, List.set_cons_succ, List.set_cons_zero, List.getElem_toArray, List.getElem_cons_zero, List.getElem_cons_succ]
                    refine hl_skip rfl (by kernel_rfl) ?_
                    simp only [Act.put, List.setIfInBounds_toArray, List.set_cons_succ, List.set_cons_zero, List.getElem_toArray, List.getElem_cons_zero, List.getElem_cons_succ]
                    refine hl_take ?v143 rfl (by kernel_rfl) ?y143 ?z143
                    case y143 => intro W hW; skip; replace hW := Lib.hid hW; go_simp; try rfl
                    case z143 =>
                    simp only [Act.put, List.setIfInBounds_toArray, List.set_cons_succ, List.set_cons_zero, List.getElem_toArray, List.getElem_cons_zero, List.getElem_cons_succ]
                    refine hl_done ?_
                    clear hB
                    replace hB := hS
                    clear hS
                    go_wp2_with fail
                    go_roundw
                    case rel => exact ⟨k + 1, by omega, by go_num, hB⟩
                    case measure => simp [intOf]; omega
                · have i5 : ¬ (k : Int) < (i : Int) := by omega
                  go_wp2_with fail
                  go_roundw
                  case rel => exact ⟨i + 1, m + 1, by omega, by go_num, by go_num, hcl2, by omega, Lib.hid hB.out.tail⟩
                  case measure => simp [intOf]; omega
          · obtain ⟨p, hip⟩ : ∃ p, i = p + 1 := ⟨i - 1, by omega⟩
            obtain ⟨u, hu⟩ : ∃ u, S[p]? = some u := ⟨S[p]'(by rw [hnS.out]; omega), List.getElem?_eq_getElem _⟩
            have hpf := hup.out u (by omega) (by rw [hip]; simpa using hu)
            have hpv := Lib.hid (sp10 hu).2.2.1
            obtain ⟨pf, hpfe⟩ : ∃ pf, u.from_ = pf := ⟨_, rfl⟩
            rw [hpfe] at hpf hpv
            simp only at hpf
            replace hpv := Lib.hid hpv.out
            have q2 : decide ((f : Int) ≤ pf) = false := decide_eq_false (by omega)
            clear hu hpfe u
            have hsub : IntKind.i64.wrap (p : Int) = (p : Int) := IntWalk.i64_in _ (by omega)
            have hsub2 : (i : Int) - 1 = (p : Int) := by omega
            have hig : decide ((0 : Int) < (i : Int)) = true := decide_eq_true (by omega)
            have hig2 : decide (0 < i) = true := decide_eq_true (by omega)
            have i7 : (0 : Int) ≤ (p : Int) := by omega
            have i8 : (p : Int) < (n : Int) := by omega
            replace hsub := Lib.hid hsub
            replace hsub2 := Lib.hid hsub2
            replace hip := Lib.hid hip
            clear hi0
            go_wp2_with fail
            generalize wr.heap.size = xb at *
            clear z0 z1 z2 z3 z4 z5 z6 z7 z8 z9
            have hsub' := hsub.out
            have hsub2' := hsub2.out
            have hS := Lib.hid (show (fun W : World => Sep W [blk xb 36 #[.int .i64 call, .int .i64 thread, .int .i64 (f : Int), .int .i64 to_, .int .i64 kind, .int .i64 txn, .int .i64 t_, .int .i64 r_, .int .i64 mode, .int .i64 code], vec 36 10 (.slice (some ⟨g, 0, none⟩) n sc) n (scells S), old w]) _ from hB.out.drew)
            try dsimp only [List.append]
            refine hl_begin_n (fun W : World => Sep W [blk xb 36 #[.int .i64 call, .int .i64 thread, .int .i64 (f : Int), .int .i64 to_, .int .i64 kind, .int .i64 txn, .int .i64 t_, .int .i64 r_, .int .i64 mode, .int .i64 code], vec 36 10 (.slice (some ⟨g, 0, none⟩) n sc) n (scells S), old w]) ((0, true) :: (1, true) :: (2, true) :: (3, true) :: (4, true) :: (5, true) :: (6, true) :: (7, true) :: (8, true) :: (9, true) :: (10, true) :: (11, true) :: (12, true) :: (13, true) :: (14, true) :: (15, true) :: (16, true) :: (17, true) :: (18, true) :: (19, true) :: (20, true) :: (21, true) :: (22, true) :: (23, true) :: (24, true) :: (25, true) :: (26, true) :: (27, true) :: (28, true) :: (29, true) :: (30, true) :: (31, true) :: (32, true) :: (33, true) :: (34, true) :: (35, true) :: (36, true) :: (37, true) :: (38, true) :: (39, true) :: (40, true) :: (41, true) :: (42, true) :: (43, true) :: (44, true) :: (45, true) :: (46, true) :: (47, true) :: (48, true) :: (49, true) :: (50, true) :: (51, true) :: (52, true) :: (53, true) :: (54, true) :: (55, true) :: []) (([], [10], 65) :: ([0], [64], 66) :: ([1], [65], 67) :: ([2], [66], 68) :: ([3], [10, 67], 69) :: ([4, 3], [68, 67], 70) :: ([3], [0, 67], 71) :: ([6, 3], [70, 67], 72) :: ([5, 7, 3], [69, 71, 67], 73) :: ([3, 8], [67, 72], 74) :: ([9, 3], [73], 75) :: ([10], [0, 74], 76) :: ([10], [10, 74], 77) :: ([12, 10], [76, 74], 78) :: ([11, 13, 10], [75, 77, 74], 79) :: ([14, 10], [78, 74], 80) :: ([15, 10], [79, 74], 81) :: ([16, 10], [80, 74], 82) :: ([10, 17], [74, 81], 83) :: ([18, 10], [82], 84) :: ([19], [0, 83], 85) :: ([19], [10, 83], 86) :: ([21, 19], [85, 83], 87) :: ([20, 22, 19], [84, 86, 83], 88) :: ([23, 19], [87, 83], 89) :: ([24, 19], [88, 83], 90) :: ([19], [10, 83], 91) :: ([26, 19], [90, 83], 92) :: ([25, 27, 19], [89, 91, 83], 93) :: ([19, 28], [83, 92], 94) :: ([29, 19], [93], 95) :: ([30], [0, 94], 96) :: ([30], [10, 94], 97) :: ([32, 30], [96, 94], 98) :: ([31, 33, 30], [95, 97, 94], 99) :: ([34, 30], [98, 94], 100) :: ([35, 30], [99, 94], 101) :: ([30], [10, 94], 102) :: ([37, 30], [101, 94], 103) :: ([36, 38, 30], [100, 102, 94], 104) :: ([30, 39], [94, 103], 105) :: ([40, 30], [104], 106) :: ([41], [9, 105], 107) :: ([42, 41], [106, 105], 108) :: ([43, 41, 41], [107, 105], 109) :: ([44], [5, 108], 110) :: ([44], [9, 108], 111) :: ([46, 44], [110, 108], 112) :: ([45, 47, 44], [109, 111, 108], 113) :: ([48, 44], [112, 108], 114) :: ([49, 44], [113, 108], 115) :: ([44], [10, 108], 116) :: ([51, 44], [115, 108], 117) :: ([50, 52, 44], [114, 116, 108], 118) :: ([44, 53, 41], [108, 117, 105], 119) :: ([41, 54], [105, 118], 120) :: []) (by kernel_rfl) (by kernel_rfl) (by kernel_rfl) (by kernel_rfl) rfl (by intro _ _ _ _ _ h; exact h) hS.out ?_
            change HL _ _ _ _ _ _ (World.drew _)
            generalize World.drew _ = wd at *
            refine hl_take ?v144 rfl (by kernel_rfl) ?y144 ?z144
            case y144 => intro W hW; skip; replace hW := Lib.hid hW; go_simp; try rfl
            case z144 =>
            simp only [Act.put, List.setIfInBounds_toArray, List.set_cons_succ, List.set_cons_zero, List.getElem_toArray, List.getElem_cons_zero, List.getElem_cons_succ]
            refine hl_take ?v145 rfl (by kernel_rfl) ?y145 ?z145
            case y145 => intro W hW; change Sep W _ at hW; obtain ⟨_, x0, x1, x2, x3, x4, x5, x6, x7, x8, x9, _⟩ := b10 hW; obtain ⟨y0, y1, y2, y3, y4, y5, y6, y7, y8⟩ := hef.out; replace y0 := (hW.to2.gold.cell (p := ⟨b, off + f * 9, none⟩) hbl).trans y0; replace y1 := (hW.to2.gold.cell (p := ⟨b, off + f * 9 + 1, none⟩) hbl).trans y1; replace y2 := (hW.to2.gold.cell (p := ⟨b, off + f * 9 + 2, none⟩) hbl).trans y2; replace y3 := (hW.to2.gold.cell (p := ⟨b, off + f * 9 + 3, none⟩) hbl).trans y3; replace y4 := (hW.to2.gold.cell (p := ⟨b, off + f * 9 + 4, none⟩) hbl).trans y4; replace y5 := (hW.to2.gold.cell (p := ⟨b, off + f * 9 + 5, none⟩) hbl).trans y5; replace y6 := (hW.to2.gold.cell (p := ⟨b, off + f * 9 + 6, none⟩) hbl).trans y6; replace y7 := (hW.to2.gold.cell (p := ⟨b, off + f * 9 + 7, none⟩) hbl).trans y7; replace y8 := (hW.to2.gold.cell (p := ⟨b, off + f * 9 + 8, none⟩) hbl).trans y8; have p2 := (hW.to1.vec_cell hpv.out).1; replace hW := Lib.hid hW; go_simp; try rfl
            case z145 =>
            simp only [Act.put, List.setIfInBounds_toArray, List.set_cons_succ, List.set_cons_zero, List.getElem_toArray, List.getElem_cons_zero, List.getElem_cons_succ]
            refine hl_take ?v146 rfl (by kernel_rfl) ?y146 ?z146
            case y146 => intro W hW; skip; replace hW := Lib.hid hW; go_simp; try rfl
            case z146 =>
            simp only [Act.put, List.setIfInBounds_toArray, List.set_cons_succ, List.set_cons_zero, List.getElem_toArray, List.getElem_cons_zero, List.getElem_cons_succ]
            refine hl_take ?v147 rfl (by kernel_rfl) ?y147 ?z147
            case y147 => intro W hW; skip; replace hW := Lib.hid hW; go_simp; try rfl
            case z147 =>
            simp only [Act.put, List.setIfInBounds_toArray, List.set_cons_succ, List.set_cons_zero, List.getElem_toArray, List.getElem_cons_zero, List.getElem_cons_succ]
            refine hl_take ?v148 rfl (by kernel_rfl) ?y148 ?z148
            case y148 => intro W hW; skip; replace hW := Lib.hid hW; go_simp; try rfl
            case z148 =>
            simp only [Act.put, List.setIfInBounds_toArray, List.set_cons_succ, List.set_cons_zero, List.getElem_toArray, List.getElem_cons_zero, List.getElem_cons_succ]
            refine hl_take ?v149 rfl (by kernel_rfl) ?y149 ?z149
            case y149 => intro W hW; change Sep W _ at hW; obtain ⟨_, x0, x1, x2, x3, x4, x5, x6, x7, x8, x9, _⟩ := b10 hW; obtain ⟨y0, y1, y2, y3, y4, y5, y6, y7, y8⟩ := hef.out; replace y0 := (hW.to2.gold.cell (p := ⟨b, off + f * 9, none⟩) hbl).trans y0; replace y1 := (hW.to2.gold.cell (p := ⟨b, off + f * 9 + 1, none⟩) hbl).trans y1; replace y2 := (hW.to2.gold.cell (p := ⟨b, off + f * 9 + 2, none⟩) hbl).trans y2; replace y3 := (hW.to2.gold.cell (p := ⟨b, off + f * 9 + 3, none⟩) hbl).trans y3; replace y4 := (hW.to2.gold.cell (p := ⟨b, off + f * 9 + 4, none⟩) hbl).trans y4; replace y5 := (hW.to2.gold.cell (p := ⟨b, off + f * 9 + 5, none⟩) hbl).trans y5; replace y6 := (hW.to2.gold.cell (p := ⟨b, off + f * 9 + 6, none⟩) hbl).trans y6; replace y7 := (hW.to2.gold.cell (p := ⟨b, off + f * 9 + 7, none⟩) hbl).trans y7; replace y8 := (hW.to2.gold.cell (p := ⟨b, off + f * 9 + 8, none⟩) hbl).trans y8; have p2 := (hW.to1.vec_cell hpv.out).1; replace hW := Lib.hid hW; go_simp; try rfl
            case z149 =>
            simp only [Act.put, List.setIfInBounds_toArray, List.set_cons_succ, List.set_cons_zero, List.getElem_toArray, List.getElem_cons_zero, List.getElem_cons_succ]
            refine hl_take ?v150 rfl (by kernel_rfl) ?y150 ?z150
            case y150 => intro W hW; skip; replace hW := Lib.hid hW; go_simp; try rfl
            case z150 =>
            simp only [Act.put, List.setIfInBounds_toArray, List.set_cons_succ, List.set_cons_zero, List.getElem_toArray, List.getElem_cons_zero, List.getElem_cons_succ]
            refine hl_take ?v151 rfl (by kernel_rfl) ?y151 ?z151
            case y151 => intro W hW; skip; replace hW := Lib.hid hW; go_simp; try rfl
            case z151 =>
            simp only [Act.put, List.setIfInBounds_toArray, List.set_cons_succ, List.set_cons_zero, List.getElem_toArray, List.getElem_cons_zero, List.getElem_cons_succ]
            refine hl_take ?v152 rfl (by kernel_rfl) ?y152 ?z152
            case y152 => intro W hW; skip; replace hW := Lib.hid hW; go_simp; try rfl
            case z152 =>
            simp only [Act.put, List.setIfInBounds_toArray, List.set_cons_succ, List.set_cons_zero, List.getElem_toArray, List.getElem_cons_zero, List.getElem_cons_succ]
            refine hl_take ?v153 rfl (by kernel_rfl) ?y153 ?z153
            case y153 => intro W hW; skip; replace hW := Lib.hid hW; go_simp; try rfl
            case z153 =>
            simp only [Act.put, List.setIfInBounds_toArray, List.set_cons_succ, List.set_cons_zero, List.getElem_toArray, List.getElem_cons_zero, List.getElem_cons_succ]
            refine hl_take ?v154 rfl (by kernel_rfl) ?y154 ?z154
            case y154 => intro W hW; skip; replace hW := Lib.hid hW; go_simp; try rfl
            case z154 =>
            simp only [Act.put, List.setIfInBounds_toArray, List.set_cons_succ, List.set_cons_zero, List.getElem_toArray, List.getElem_cons_zero, List.getElem_cons_succ]
            refine hl_take ?v155 rfl (by kernel_rfl) ?y155 ?z155
            case y155 => intro W hW; skip; replace hW := Lib.hid hW; go_simp; try rfl
            case z155 =>
            simp only [Act.put, List.setIfInBounds_toArray, List.set_cons_succ, List.set_cons_zero, List.getElem_toArray, List.getElem_cons_zero, List.getElem_cons_succ]
            refine hl_take ?v156 rfl (by kernel_rfl) ?y156 ?z156
            case y156 => intro W hW; skip; replace hW := Lib.hid hW; go_simp; try rfl
            case z156 =>
            simp only [Act.put, List.setIfInBounds_toArray, List.set_cons_succ, List.set_cons_zero, List.getElem_toArray, List.getElem_cons_zero, List.getElem_cons_succ]
            refine hl_take ?v157 rfl (by kernel_rfl) ?y157 ?z157
            case y157 => intro W hW; change Sep W _ at hW; obtain ⟨_, x0, x1, x2, x3, x4, x5, x6, x7, x8, x9, _⟩ := b10 hW; obtain ⟨y0, y1, y2, y3, y4, y5, y6, y7, y8⟩ := hef.out; replace y0 := (hW.to2.gold.cell (p := ⟨b, off + f * 9, none⟩) hbl).trans y0; replace y1 := (hW.to2.gold.cell (p := ⟨b, off + f * 9 + 1, none⟩) hbl).trans y1; replace y2 := (hW.to2.gold.cell (p := ⟨b, off + f * 9 + 2, none⟩) hbl).trans y2; replace y3 := (hW.to2.gold.cell (p := ⟨b, off + f * 9 + 3, none⟩) hbl).trans y3; replace y4 := (hW.to2.gold.cell (p := ⟨b, off + f * 9 + 4, none⟩) hbl).trans y4; replace y5 := (hW.to2.gold.cell (p := ⟨b, off + f * 9 + 5, none⟩) hbl).trans y5; replace y6 := (hW.to2.gold.cell (p := ⟨b, off + f * 9 + 6, none⟩) hbl).trans y6; replace y7 := (hW.to2.gold.cell (p := ⟨b, off + f * 9 + 7, none⟩) hbl).trans y7; replace y8 := (hW.to2.gold.cell (p := ⟨b, off + f * 9 + 8, none⟩) hbl).trans y8; have p2 := (hW.to1.vec_cell hpv.out).1; replace hW := Lib.hid hW; go_simp; try rfl
            case z157 =>
            simp only [Act.put, List.setIfInBounds_toArray, List.set_cons_succ, List.set_cons_zero, List.getElem_toArray, List.getElem_cons_zero, List.getElem_cons_succ]
            refine hl_take ?v158 rfl (by kernel_rfl) ?y158 ?z158
            case y158 => intro W hW; skip; replace hW := Lib.hid hW; go_simp; try rfl
            case z158 =>
            simp only [Act.put, List.setIfInBounds_toArray, List.set_cons_succ, List.set_cons_zero, List.getElem_toArray, List.getElem_cons_zero, List.getElem_cons_succ]
            refine hl_take ?v159 rfl (by kernel_rfl) ?y159 ?z159
            case y159 => intro W hW; skip; replace hW := Lib.hid hW; go_simp; try rfl
            case z159 =>
            simp only [Act.put, List.setIfInBounds_toArray, List.set_cons_succ, List.set_cons_zero, List.getElem_toArray, List.getElem_cons_zero, List.getElem_cons_succ]
            refine hl_take ?v160 rfl (by kernel_rfl) ?y160 ?z160
            case y160 => intro W hW; change Sep W _ at hW; obtain ⟨_, x0, x1, x2, x3, x4, x5, x6, x7, x8, x9, _⟩ := b10 hW; obtain ⟨y0, y1, y2, y3, y4, y5, y6, y7, y8⟩ := hef.out; replace y0 := (hW.to2.gold.cell (p := ⟨b, off + f * 9, none⟩) hbl).trans y0; replace y1 := (hW.to2.gold.cell (p := ⟨b, off + f * 9 + 1, none⟩) hbl).trans y1; replace y2 := (hW.to2.gold.cell (p := ⟨b, off + f * 9 + 2, none⟩) hbl).trans y2; replace y3 := (hW.to2.gold.cell (p := ⟨b, off + f * 9 + 3, none⟩) hbl).trans y3; replace y4 := (hW.to2.gold.cell (p := ⟨b, off + f * 9 + 4, none⟩) hbl).trans y4; replace y5 := (hW.to2.gold.cell (p := ⟨b, off + f * 9 + 5, none⟩) hbl).trans y5; replace y6 := (hW.to2.gold.cell (p := ⟨b, off + f * 9 + 6, none⟩) hbl).trans y6; replace y7 := (hW.to2.gold.cell (p := ⟨b, off + f * 9 + 7, none⟩) hbl).trans y7; replace y8 := (hW.to2.gold.cell (p := ⟨b, off + f * 9 + 8, none⟩) hbl).trans y8; have p2 := (hW.to1.vec_cell hpv.out).1; replace hW := Lib.hid hW; go_simp; try rfl
            case z160 =>
            simp only [Act.put, List.setIfInBounds_toArray, List.set_cons_succ, List.set_cons_zero, List.getElem_toArray, List.getElem_cons_zero, List.getElem_cons_succ]
            refine hl_take ?v161 rfl (by kernel_rfl) ?y161 ?z161
            case y161 => intro W hW; skip; replace hW := Lib.hid hW; go_simp; try rfl
            case z161 =>
            simp only [Act.put, List.setIfInBounds_toArray, List.set_cons_succ, List.set_cons_zero, List.getElem_toArray, List.getElem_cons_zero, List.getElem_cons_succ]
            refine hl_take ?v162 rfl (by kernel_rfl) ?y162 ?z162
            case y162 => intro W hW; skip; replace hW := Lib.hid hW; go_simp; try rfl
            case z162 =>
            simp only [Act.put, List.setIfInBounds_toArray, List.set_cons_succ, List.set_cons_zero, List.getElem_toArray, List.getElem_cons_zero, List.getElem_cons_succ]
            refine hl_take ?v163 rfl (by kernel_rfl) ?y163 ?z163
            case y163 => intro W hW; skip; replace hW := Lib.hid hW; go_simp; try rfl
            case z163 =>
            simp only [Act.put, List.setIfInBounds_toArray, List.set_cons_succ, List.set_cons_zero, List.getElem_toArray, List.getElem_cons_zero, List.getElem_cons_succ]
            refine hl_take ?v164 rfl (by kernel_rfl) ?y164 ?z164
            case y164 => intro W hW; skip; replace hW := Lib.hid hW; go_simp; try rfl
            case z164 =>
            simp only [Act.put, List.setIfInBounds_toArray, List.set_cons_succ, List.set_cons_zero, List.getElem_toArray, List.getElem_cons_zero, List.getElem_cons_succ]
            refine hl_take ?v165 rfl (by kernel_rfl) ?y165 ?z165
            case y165 => intro W hW; skip; replace hW := Lib.hid hW; go_simp; try rfl
            case z165 =>
            simp only [Act.put, List.setIfInBounds_toArray, List.set_cons_succ, List.set_cons_zero, List.getElem_toArray, List.getElem_cons_zero, List.getElem_cons_succ]
            refine hl_take ?v166 rfl (by kernel_rfl) ?y166 ?z166
            case y166 => intro W hW; change Sep W _ at hW; obtain ⟨_, x0, x1, x2, x3, x4, x5, x6, x7, x8, x9, _⟩ := b10 hW; obtain ⟨y0, y1, y2, y3, y4, y5, y6, y7, y8⟩ := hef.out; replace y0 := (hW.to2.gold.cell (p := ⟨b, off + f * 9, none⟩) hbl).trans y0; replace y1 := (hW.to2.gold.cell (p := ⟨b, off + f * 9 + 1, none⟩) hbl).trans y1; replace y2 := (hW.to2.gold.cell (p := ⟨b, off + f * 9 + 2, none⟩) hbl).trans y2; replace y3 := (hW.to2.gold.cell (p := ⟨b, off + f * 9 + 3, none⟩) hbl).trans y3; replace y4 := (hW.to2.gold.cell (p := ⟨b, off + f * 9 + 4, none⟩) hbl).trans y4; replace y5 := (hW.to2.gold.cell (p := ⟨b, off + f * 9 + 5, none⟩) hbl).trans y5; replace y6 := (hW.to2.gold.cell (p := ⟨b, off + f * 9 + 6, none⟩) hbl).trans y6; replace y7 := (hW.to2.gold.cell (p := ⟨b, off + f * 9 + 7, none⟩) hbl).trans y7; replace y8 := (hW.to2.gold.cell (p := ⟨b, off + f * 9 + 8, none⟩) hbl).trans y8; have p2 := (hW.to1.vec_cell hpv.out).1; replace hW := Lib.hid hW; go_simp; try rfl
            case z166 =>
            simp only [Act.put, List.setIfInBounds_toArray, List.set_cons_succ, List.set_cons_zero, List.getElem_toArray, List.getElem_cons_zero, List.getElem_cons_succ]
            refine hl_take ?v167 rfl (by kernel_rfl) ?y167 ?z167
            case y167 => intro W hW; skip; replace hW := Lib.hid hW; go_simp; try rfl
            case z167 =>
            simp only [Act.put, List.setIfInBounds_toArray, List.set_cons_succ, List.set_cons_zero, List.getElem_toArray, List.getElem_cons_zero, List.getElem_cons_succ]
            refine hl_take ?v168 rfl (by kernel_rfl) ?y168 ?z168
            case y168 => intro W hW; skip; replace hW := Lib.hid hW; go_simp; try rfl
            case z168 =>
            simp only [Act.put, List.setIfInBounds_toArray, List.set_cons_succ, List.set_cons_zero, List.getElem_toArray, List.getElem_cons_zero, List.getElem_cons_succ]
            refine hl_take ?v169 rfl (by kernel_rfl) ?y169 ?z169
            case y169 => intro W hW; change Sep W _ at hW; obtain ⟨_, x0, x1, x2, x3, x4, x5, x6, x7, x8, x9, _⟩ := b10 hW; obtain ⟨y0, y1, y2, y3, y4, y5, y6, y7, y8⟩ := hef.out; replace y0 := (hW.to2.gold.cell (p := ⟨b, off + f * 9, none⟩) hbl).trans y0; replace y1 := (hW.to2.gold.cell (p := ⟨b, off + f * 9 + 1, none⟩) hbl).trans y1; replace y2 := (hW.to2.gold.cell (p := ⟨b, off + f * 9 + 2, none⟩) hbl).trans y2; replace y3 := (hW.to2.gold.cell (p := ⟨b, off + f * 9 + 3, none⟩) hbl).trans y3; replace y4 := (hW.to2.gold.cell (p := ⟨b, off + f * 9 + 4, none⟩) hbl).trans y4; replace y5 := (hW.to2.gold.cell (p := ⟨b, off + f * 9 + 5, none⟩) hbl).trans y5; replace y6 := (hW.to2.gold.cell (p := ⟨b, off + f * 9 + 6, none⟩) hbl).trans y6; replace y7 := (hW.to2.gold.cell (p := ⟨b, off + f * 9 + 7, none⟩) hbl).trans y7; replace y8 := (hW.to2.gold.cell (p := ⟨b, off + f * 9 + 8, none⟩) hbl).trans y8; have p2 := (hW.to1.vec_cell hpv.out).1; replace hW := Lib.hid hW; go_simp; try rfl
            case z169 =>
            simp only [Act.put, List.setIfInBounds_toArray, List.set_cons_succ, List.set_cons_zero, List.getElem_toArray, List.getElem_cons_zero, List.getElem_cons_succ]
            refine hl_take ?v170 rfl (by kernel_rfl) ?y170 ?z170
            case y170 => intro W hW; skip; replace hW := Lib.hid hW; go_simp; try rfl
            case z170 =>
            simp only [Act.put, List.setIfInBounds_toArray, List.set_cons_succ, List.set_cons_zero, List.getElem_toArray, List.getElem_cons_zero, List.getElem_cons_succ]
            refine hl_take ?v171 rfl (by kernel_rfl) ?y171 ?z171
            case y171 => intro W hW; change Sep W _ at hW; obtain ⟨_, x0, x1, x2, x3, x4, x5, x6, x7, x8, x9, _⟩ := b10 hW; obtain ⟨y0, y1, y2, y3, y4, y5, y6, y7, y8⟩ := hef.out; replace y0 := (hW.to2.gold.cell (p := ⟨b, off + f * 9, none⟩) hbl).trans y0; replace y1 := (hW.to2.gold.cell (p := ⟨b, off + f * 9 + 1, none⟩) hbl).trans y1; replace y2 := (hW.to2.gold.cell (p := ⟨b, off + f * 9 + 2, none⟩) hbl).trans y2; replace y3 := (hW.to2.gold.cell (p := ⟨b, off + f * 9 + 3, none⟩) hbl).trans y3; replace y4 := (hW.to2.gold.cell (p := ⟨b, off + f * 9 + 4, none⟩) hbl).trans y4; replace y5 := (hW.to2.gold.cell (p := ⟨b, off + f * 9 + 5, none⟩) hbl).trans y5; replace y6 := (hW.to2.gold.cell (p := ⟨b, off + f * 9 + 6, none⟩) hbl).trans y6; replace y7 := (hW.to2.gold.cell (p := ⟨b, off + f * 9 + 7, none⟩) hbl).trans y7; replace y8 := (hW.to2.gold.cell (p := ⟨b, off + f * 9 + 8, none⟩) hbl).trans y8; have p2 := (hW.to1.vec_cell hpv.out).1; replace hW := Lib.hid hW; go_simp; try rfl
            case z171 =>
            simp only [Act.put, List.setIfInBounds_toArray, List.set_cons_succ, List.set_cons_zero, List.getElem_toArray, List.getElem_cons_zero, List.getElem_cons_succ]
            refine hl_take ?v172 rfl (by kernel_rfl) ?y172 ?z172
            case y172 => intro W hW; skip; replace hW := Lib.hid hW; go_simp; try rfl
            case z172 =>
            simp only [Act.put, List.setIfInBounds_toArray, List.set_cons_succ, List.set_cons_zero, List.getElem_toArray, List.getElem_cons_zero, List.getElem_cons_succ]
            refine hl_take ?v173 rfl (by kernel_rfl) ?y173 ?z173
            case y173 => intro W hW; skip; replace hW := Lib.hid hW; go_simp; try rfl
            case z173 =>
            simp only [Act.put, List.setIfInBounds_toArray, List.set_cons_succ, List.set_cons_zero, List.getElem_toArray, List.getElem_cons_zero, List.getElem_cons_succ]
            refine hl_take ?v174 rfl (by kernel_rfl) ?y174 ?z174
            case y174 => intro W hW; skip; replace hW := Lib.hid hW; go_simp; try rfl
            case z174 =>
            simp only [Act.put, List.setIfInBounds_toArray, List.set_cons_succ, List.set_cons_zero, List.getElem_toArray, List.getElem_cons_zero, List.getElem_cons_succ]
            refine hl_take ?v175 rfl (by kernel_rfl) ?y175 ?z175
            case y175 => intro W hW; skip; replace hW := Lib.hid hW; go_simp; try rfl
            case z175 =>
            simp only [Act.put, List.setIfInBounds_toArray, List.set_cons_succ, List.set_cons_zero, List.getElem_toArray, List.getElem_cons_zero, List.getElem_cons_succ]
            refine hl_take ?v176 rfl (by kernel_rfl) ?y176 ?z176
            case y176 => intro W hW; skip; replace hW := Lib.hid hW; go_simp; try rfl
            case z176 =>
            simp only [Act.put, List.setIfInBounds_toArray, List.set_cons_succ, List.set_cons_zero, List.getElem_toArray, List.getElem_cons_zero, List.getElem_cons_succ]
            refine hl_take ?v177 rfl (by kernel_rfl) ?y177 ?z177
            case y177 => intro W hW; change Sep W _ at hW; obtain ⟨_, x0, x1, x2, x3, x4, x5, x6, x7, x8, x9, _⟩ := b10 hW; obtain ⟨y0, y1, y2, y3, y4, y5, y6, y7, y8⟩ := hef.out; replace y0 := (hW.to2.gold.cell (p := ⟨b, off + f * 9, none⟩) hbl).trans y0; replace y1 := (hW.to2.gold.cell (p := ⟨b, off + f * 9 + 1, none⟩) hbl).trans y1; replace y2 := (hW.to2.gold.cell (p := ⟨b, off + f * 9 + 2, none⟩) hbl).trans y2; replace y3 := (hW.to2.gold.cell (p := ⟨b, off + f * 9 + 3, none⟩) hbl).trans y3; replace y4 := (hW.to2.gold.cell (p := ⟨b, off + f * 9 + 4, none⟩) hbl).trans y4; replace y5 := (hW.to2.gold.cell (p := ⟨b, off + f * 9 + 5, none⟩) hbl).trans y5; replace y6 := (hW.to2.gold.cell (p := ⟨b, off + f * 9 + 6, none⟩) hbl).trans y6; replace y7 := (hW.to2.gold.cell (p := ⟨b, off + f * 9 + 7, none⟩) hbl).trans y7; replace y8 := (hW.to2.gold.cell (p := ⟨b, off + f * 9 + 8, none⟩) hbl).trans y8; have p2 := (hW.to1.vec_cell hpv.out).1; replace hW := Lib.hid hW; go_simp; try rfl
            case z177 =>
            simp only [Act.put, List.setIfInBounds_toArray, List.set_cons_succ, List.set_cons_zero, List.getElem_toArray, List.getElem_cons_zero, List.getElem_cons_succ]
            refine hl_take ?v178 rfl (by kernel_rfl) ?y178 ?z178
            case y178 => intro W hW; skip; replace hW := Lib.hid hW; go_simp; try rfl
            case z178 =>
            simp only [Act.put, List.setIfInBounds_toArray, List.set_cons_succ, List.set_cons_zero, List.getElem_toArray, List.getElem_cons_zero, List.getElem_cons_succ]
            refine hl_take ?v179 rfl (by kernel_rfl) ?y179 ?z179
            case y179 => intro W hW; skip; replace hW := Lib.hid hW; go_simp; try rfl
            case z179 =>
            simp only [Act.put, List.setIfInBounds_toArray, List.set_cons_succ, List.set_cons_zero, List.getElem_toArray, List.getElem_cons_zero, List.getElem_cons_succ]
            refine hl_take ?v180 rfl (by kernel_rfl) ?y180 ?z180
            case y180 => intro W hW; change Sep W _ at hW; obtain ⟨_, x0, x1, x2, x3, x4, x5, x6, x7, x8, x9, _⟩ := b10 hW; obtain ⟨y0, y1, y2, y3, y4, y5, y6, y7, y8⟩ := hef.out; replace y0 := (hW.to2.gold.cell (p := ⟨b, off + f * 9, none⟩) hbl).trans y0; replace y1 := (hW.to2.gold.cell (p := ⟨b, off + f * 9 + 1, none⟩) hbl).trans y1; replace y2 := (hW.to2.gold.cell (p := ⟨b, off + f * 9 + 2, none⟩) hbl).trans y2; replace y3 := (hW.to2.gold.cell (p := ⟨b, off + f * 9 + 3, none⟩) hbl).trans y3; replace y4 := (hW.to2.gold.cell (p := ⟨b, off + f * 9 + 4, none⟩) hbl).trans y4; replace y5 := (hW.to2.gold.cell (p := ⟨b, off + f * 9 + 5, none⟩) hbl).trans y5; replace y6 := (hW.to2.gold.cell (p := ⟨b, off + f * 9 + 6, none⟩) hbl).trans y6; replace y7 := (hW.to2.gold.cell (p := ⟨b, off + f * 9 + 7, none⟩) hbl).trans y7; replace y8 := (hW.to2.gold.cell (p := ⟨b, off + f * 9 + 8, none⟩) hbl).trans y8; have p2 := (hW.to1.vec_cell hpv.out).1; replace hW := Lib.hid hW; go_simp; try rfl
            case z180 =>
            simp only [Act.put, List.setIfInBounds_toArray, List.set_cons_succ, List.set_cons_zero, List.getElem_toArray, List.getElem_cons_zero, List.getElem_cons_succ]
            refine hl_take ?v181 rfl (by kernel_rfl) ?y181 ?z181
            case y181 => intro W hW; skip; replace hW := Lib.hid hW; go_simp; try rfl
            case z181 =>
            simp only [Act.put, List.setIfInBounds_toArray, List.set_cons_succ, List.set_cons_zero, List.getElem_toArray, List.getElem_cons_zero, List.getElem_cons_succ]
            refine hl_take ?v182 rfl (by kernel_rfl) ?y182 ?z182
            case y182 => intro W hW; change Sep W _ at hW; obtain ⟨_, x0, x1, x2, x3, x4, x5, x6, x7, x8, x9, _⟩ := b10 hW; obtain ⟨y0, y1, y2, y3, y4, y5, y6, y7, y8⟩ := hef.out; replace y0 := (hW.to2.gold.cell (p := ⟨b, off + f * 9, none⟩) hbl).trans y0; replace y1 := (hW.to2.gold.cell (p := ⟨b, off + f * 9 + 1, none⟩) hbl).trans y1; replace y2 := (hW.to2.gold.cell (p := ⟨b, off + f * 9 + 2, none⟩) hbl).trans y2; replace y3 := (hW.to2.gold.cell (p := ⟨b, off + f * 9 + 3, none⟩) hbl).trans y3; replace y4 := (hW.to2.gold.cell (p := ⟨b, off + f * 9 + 4, none⟩) hbl).trans y4; replace y5 := (hW.to2.gold.cell (p := ⟨b, off + f * 9 + 5, none⟩) hbl).trans y5; replace y6 := (hW.to2.gold.cell (p := ⟨b, off + f * 9 + 6, none⟩) hbl).trans y6; replace y7 := (hW.to2.gold.cell (p := ⟨b, off + f * 9 + 7, none⟩) hbl).trans y7; replace y8 := (hW.to2.gold.cell (p := ⟨b, off + f * 9 + 8, none⟩) hbl).trans y8; have p2 := (hW.to1.vec_cell hpv.out).1; replace hW := Lib.hid hW; go_simp; try rfl
            case z182 =>
            simp only [Act.put, List.setIfInBounds_toArray, List.set_cons_succ, List.set_cons_zero, List.getElem_toArray, List.getElem_cons_zero, List.getElem_cons_succ]
            refine hl_take ?v183 rfl (by kernel_rfl) ?y183 ?z183
            case y183 => intro W hW; skip; replace hW := Lib.hid hW; go_simp; try rfl
            case z183 =>
            simp only [Act.put, List.setIfInBounds_toArray, List.set_cons_succ, List.set_cons_zero, List.getElem_toArray, List.getElem_cons_zero, List.getElem_cons_succ]
            refine hl_take ?v184 rfl (by kernel_rfl) ?y184 ?z184
            case y184 => intro W hW; skip; replace hW := Lib.hid hW; go_simp; try rfl
            case z184 =>
            simp only [Act.put, List.setIfInBounds_toArray, List.set_cons_succ, List.set_cons_zero, List.getElem_toArray, List.getElem_cons_zero, List.getElem_cons_succ]
            refine hl_take ?v185 rfl (by kernel_rfl) ?y185 ?z185
            case y185 => intro W hW; skip; replace hW := Lib.hid hW; go_simp; try rfl
            case z185 =>
            simp only [Act.put, List.setIfInBounds_toArray, List.set_cons_succ, List.set_cons_zero, List.getElem_toArray, List.getElem_cons_zero, List.getElem_cons_succ]
            refine hl_take ?v186 rfl (by kernel_rfl) ?y186 ?z186
            case y186 => intro W hW; skip; replace hW := Lib.hid hW; go_simp; try rfl
            case z186 =>
            simp only [Act.put, List.setIfInBounds_toArray, List.set_cons_succ, List.set_cons_zero, List.getElem_toArray, List.getElem_cons_zero, List.getElem_cons_succ]
            refine hl_take ?v187 rfl (by kernel_rfl) ?y187 ?z187
            case y187 => intro W hW; skip; replace hW := Lib.hid hW; go_simp; try rfl
            case z187 =>
            simp only [Act.put, List.setIfInBounds_toArray, List.set_cons_succ, List.set_cons_zero, List.getElem_toArray, List.getElem_cons_zero, List.getElem_cons_succ]
            refine hl_take ?v188 rfl (by kernel_rfl) ?y188 ?z188
            case y188 => intro W hW; skip; replace hW := Lib.hid hW; go_simp; try rfl
            case z188 =>
            simp only [Act.put, List.setIfInBounds_toArray, List.set_cons_succ, List.set_cons_zero, List.getElem_toArray, List.getElem_cons_zero, List.getElem_cons_succ]
            refine hl_take ?v189 rfl (by kernel_rfl) ?y189 ?z189
            case y189 => intro W hW; skip; replace hW := Lib.hid hW; go_simp; try rfl
            case z189 =>
            simp only [Act.put, List.setIfInBounds_toArray, List.set_cons_succ, List.set_cons_zero, List.getElem_toArray, List.getElem_cons_zero, List.getElem_cons_succ]
            refine hl_take ?v190 rfl (by kernel_rfl) ?y190 ?z190
            case y190 => intro W hW; skip; replace hW := Lib.hid hW; go_simp; try rfl
            case z190 =>
            simp only [Act.put, List.setIfInBounds_toArray, List.set_cons_succ, List.set_cons_zero, List.getElem_toArray, List.getElem_cons_zero, List.getElem_cons_succ]
            refine hl_take ?v191 rfl (by kernel_rfl) ?y191 ?z191
            case y191 => intro W hW; skip; replace hW := Lib.hid hW; go_simp; try rfl
            case z191 =>
            simp only [Act.put, List.setIfInBounds_toArray, List.set_cons_succ, List.set_cons_zero, List.getElem_toArray, List.getElem_cons_zero, List.getElem_cons_succ]
            refine hl_take ?v192 rfl (by kernel_rfl) ?y192 ?z192
            case y192 => intro W hW; skip; replace hW := Lib.hid hW; go_simp; try rfl
            case z192 =>
            simp only [Act.put, List.setIfInBounds_toArray, List.set_cons_succ, List.set_cons_zero, List.getElem_toArray, List.getElem_cons_zero, List.getElem_cons_succ]
            refine hl_take ?v193 rfl (by kernel_rfl) ?y193 ?z193
            case y193 => intro W hW; skip; replace hW := Lib.hid hW; go_simp; try rfl
            case z193 =>
            simp only [Act.put, List.setIfInBounds_toArray, List.set_cons_succ, List.set_cons_zero, List.getElem_toArray, List.getElem_cons_zero, List.getElem_cons_succ]
            refine hl_take ?v194 rfl (by kernel_rfl) ?y194 ?z194
            case y194 => intro W hW; change Sep W _ at hW; obtain ⟨_, x0, x1, x2, x3, x4, x5, x6, x7, x8, x9, _⟩ := b10 hW; obtain ⟨y0, y1, y2, y3, y4, y5, y6, y7, y8⟩ := hef.out; replace y0 := (hW.to2.gold.cell (p := ⟨b, off + f * 9, none⟩) hbl).trans y0; replace y1 := (hW.to2.gold.cell (p := ⟨b, off + f * 9 + 1, none⟩) hbl).trans y1; replace y2 := (hW.to2.gold.cell (p := ⟨b, off + f * 9 + 2, none⟩) hbl).trans y2; replace y3 := (hW.to2.gold.cell (p := ⟨b, off + f * 9 + 3, none⟩) hbl).trans y3; replace y4 := (hW.to2.gold.cell (p := ⟨b, off + f * 9 + 4, none⟩) hbl).trans y4; replace y5 := (hW.to2.gold.cell (p := ⟨b, off + f * 9 + 5, none⟩) hbl).trans y5; replace y6 := (hW.to2.gold.cell (p := ⟨b, off + f * 9 + 6, none⟩) hbl).trans y6; replace y7 := (hW.to2.gold.cell (p := ⟨b, off + f * 9 + 7, none⟩) hbl).trans y7; replace y8 := (hW.to2.gold.cell (p := ⟨b, off + f * 9 + 8, none⟩) hbl).trans y8; have p2 := (hW.to1.vec_cell hpv.out).1; replace hW := Lib.hid hW; go_simp; try rfl
            case z194 =>
            simp only [Act.put, List.setIfInBounds_toArray, List.set_cons_succ, List.set_cons_zero, List.getElem_toArray, List.getElem_cons_zero, List.getElem_cons_succ]
            refine hl_take ?v195 rfl (by kernel_rfl) ?y195 ?z195
            case y195 => intro W hW; skip; replace hW := Lib.hid hW; go_simp; try rfl
            case z195 =>
            simp only [Act.put, List.setIfInBounds_toArray, List.set_cons_succ, List.set_cons_zero, List.getElem_toArray, List.getElem_cons_zero, List.getElem_cons_succ]
            refine hl_take ?v196 rfl (by kernel_rfl) ?y196 ?z196
            case y196 => intro W hW; change Sep W _ at hW; obtain ⟨_, x0, x1, x2, x3, x4, x5, x6, x7, x8, x9, _⟩ := b10 hW; obtain ⟨y0, y1, y2, y3, y4, y5, y6, y7, y8⟩ := hef.out; replace y0 := (hW.to2.gold.cell (p := ⟨b, off + f * 9, none⟩) hbl).trans y0; replace y1 := (hW.to2.gold.cell (p := ⟨b, off + f * 9 + 1, none⟩) hbl).trans y1; replace y2 := (hW.to2.gold.cell (p := ⟨b, off + f * 9 + 2, none⟩) hbl).trans y2; replace y3 := (hW.to2.gold.cell (p := ⟨b, off + f * 9 + 3, none⟩) hbl).trans y3; replace y4 := (hW.to2.gold.cell (p := ⟨b, off + f * 9 + 4, none⟩) hbl).trans y4; replace y5 := (hW.to2.gold.cell (p := ⟨b, off + f * 9 + 5, none⟩) hbl).trans y5; replace y6 := (hW.to2.gold.cell (p := ⟨b, off + f * 9 + 6, none⟩) hbl).trans y6; replace y7 := (hW.to2.gold.cell (p := ⟨b, off + f * 9 + 7, none⟩) hbl).trans y7; replace y8 := (hW.to2.gold.cell (p := ⟨b, off + f * 9 + 8, none⟩) hbl).trans y8; have p2 := (hW.to1.vec_cell hpv.out).1; replace hW := Lib.hid hW; go_simp; try rfl
            case z196 =>
            simp only [Act.put, List.setIfInBounds_toArray, List.set_cons_succ, List.set_cons_zero, List.getElem_toArray, List.getElem_cons_zero, List.getElem_cons_succ]
            refine hl_take ?v197 rfl (by kernel_rfl) ?y197 ?z197
            case y197 => intro W hW; skip; replace hW := Lib.hid hW; go_simp; try rfl
            case z197 =>
            simp only [Act.put, List.setIfInBounds_toArray, List.set_cons_succ, List.set_cons_zero, List.getElem_toArray, List.getElem_cons_zero, List.getElem_cons_succ]
            refine hl_take ?v198 rfl (by kernel_rfl) ?y198 ?z198
            case y198 => intro W hW; skip; replace hW := Lib.hid hW; go_simp; try rfl
            case z198 =>
            simp only [Act.put, List.setIfInBounds_toArray, List.set_cons_succ, List.set_cons_zero, List.getElem_toArray, List.getElem_cons_zero, List.getElem_cons_succ]
            refine hl_take ?v199 rfl (by kernel_rfl) ?y199 ?z199
            case y199 => intro W hW; skip; replace hW := Lib.hid hW; go_simp; try rfl
            case z199 =>
            simp only [Act.put, List.setIfInBounds_toArray, List.set_cons_succ, List.set_cons_zero, List.getElem_toArray, List.getElem_cons_zero, List.getElem_cons_succ]
            refine hl_done ?_
            clear hB
            replace hB := hS
            clear hS
            clear hsub' hsub2'
            obtain ⟨_, v0, v1, v2, v3, v4, v5, v6, v7, v8, v9, _⟩ := b10 hB.out
            cases hop : opens ⟨call, thread, (f : Int), to_, ⟨kind, txn, t_, r_, mode, code⟩⟩ with
            | true =>
              have hto : to_ < 0 := by unfold opens at hop; simpa using hop
              have hcl2 := hcl0.out
              rw [hop, if_pos rfl, hcl.out] at hcl2
              replace hcl2 := Lib.hid hcl2
              clear hop
              go_wp2_with fail
              clear v0 v1 v2 v3 v4 v5 v6 v7 v8 v9
              go_loopw [11] (fun x wr => ∃ k : Nat, k ≤ i ∧ x = .int .i64 k ∧ Hid (Sep wr [blk xb 36 #[.int .i64 call, .int .i64 thread, .int .i64 (f : Int), .int .i64 to_, .int .i64 kind, .int .i64 txn, .int .i64 t_, .int .i64 r_, .int .i64 mode, .int .i64 code], vec 36 10 (.slice (some ⟨g, 0, none⟩) n sc) n (scells S), old w])) (fun x _ => i - (intOf x).toNat)
              case atStart => exact ⟨0, Nat.zero_le _, rfl, hB⟩
              case round =>
                clear hB
                obtain ⟨k, hk, rfl, hB⟩ := hrel
                by_cases hki : k < i
                · have i3 : (0 : Int) ≤ (k : Int) := by omega
                  have i4 : (k : Int) < (n : Int) := by omega
                  have i5 : (k : Int) < (i : Int) := by omega
                  obtain ⟨u, hu⟩ : ∃ u, S[k]? = some u := ⟨S[k]'(by rw [hnS.out]; omega), List.getElem?_eq_getElem _⟩
                  have hap := hapart.out k u hki hu
                  have HBf := Lib.hid (fun W => before_any u ⟨call, thread, (f : Int), to_, ⟨kind, txn, t_, r_, mode, code⟩⟩ W)
                  replace hu := Lib.hid hu
                  by_cases hth : u.thread = thread
                  · have hb := hap hth
                    rw [hb] at HBf
                    replace HBf := Lib.hid HBf.out
                    have hthb : (u.thread == thread) = true := by rw [hth]; simp
                    clear hap hb hth
                    go_wp2_with fail
                    have hS := Lib.hid (show (fun W : World => Sep W [blk xb 36 #[.int .i64 call, .int .i64 thread, .int .i64 (f : Int), .int .i64 to_, .int .i64 kind, .int .i64 txn, .int .i64 t_, .int .i64 r_, .int .i64 mode, .int .i64 code], vec 36 10 (.slice (some ⟨g, 0, none⟩) n sc) n (scells S), old w]) _ from hB.out.drew)
                    refine hl_begin (fun W : World => Sep W [blk xb 36 #[.int .i64 call, .int .i64 thread, .int .i64 (f : Int), .int .i64 to_, .int .i64 kind, .int .i64 txn, .int .i64 t_, .int .i64 r_, .int .i64 mode, .int .i64 code], vec 36 10 (.slice (some ⟨g, 0, none⟩) n sc) n (scells S), old w]) [(0, true), (1, true), (2, true), (3, true), (4, true), (5, true), (6, true), (7, true), (8, true), (9, true), (10, true), (11, true), (12, true), (13, true), (14, false), (15, true), (16, true)] (by kernel_rfl) (by kernel_rfl) (by kernel_rfl) rfl (fun _ _ _ _ _ h => h) hS.out ?_
                    change HL _ _ _ _ _ _ (World.drew _)
                    generalize World.drew _ = wd at *
                    refine hl_take ?v200 rfl (by kernel_rfl) ?y200 ?z200
                    case y200 => intro W hW; skip; replace hW := Lib.hid hW; go_simp; try rfl
                    case z200 =>
                    simp only [Act.put, List.setIfInBounds_toArray, List.set_cons_succ, List.set_cons_zero, List.getElem_toArray, List.getElem_cons_zero, List.getElem_cons_succ]
                    refine hl_take ?v201 rfl (by kernel_rfl) ?y201 ?z201
                    case y201 => intro W hW; skip; replace hW := Lib.hid hW; go_simp; try rfl
                    case z201 =>
                    simp only [Act.put, List.setIfInBounds_toArray, List.set_cons_succ, List.set_cons_zero, List.getElem_toArray, List.getElem_cons_zero, List.getElem_cons_succ]
                    refine hl_take ?v202 rfl (by kernel_rfl) ?y202 ?z202
                    case y202 => intro W hW; skip; replace hW := Lib.hid hW; go_simp; try rfl
                    case z202 =>
                    simp only [Act.put, List.setIfInBounds_toArray, List.set_cons_succ, List.set_cons_zero, List.getElem_toArray, List.getElem_cons_zero, List.getElem_cons_succ]
                    refine hl_take ?v203 rfl (by kernel_rfl) ?y203 ?z203
                    case y203 => intro W hW; skip; replace hW := Lib.hid hW; go_simp; try rfl
                    case z203 =>
                    simp only [Act.put, List.setIfInBounds_toArray, List.set_cons_succ, List.set_cons_zero, List.getElem_toArray, List.getElem_cons_zero, List.getElem_cons_succ]
                    refine hl_take ?v204 rfl (by kernel_rfl) ?y204 ?z204
                    case y204 => intro W hW; change Sep W _ at hW; obtain ⟨_, x0, x1, x2, x3, x4, x5, x6, x7, x8, x9, _⟩ := b10 hW; obtain ⟨y0, y1, y2, y3, y4, y5, y6, y7, y8, y9⟩ := sp10 hu.out; replace y0 := (hW.to1.vec_cell y0).1; replace y1 := (hW.to1.vec_cell y1).1; replace y2 := (hW.to1.vec_cell y2).1; replace y3 := (hW.to1.vec_cell y3).1; replace y4 := (hW.to1.vec_cell y4).1; replace y5 := (hW.to1.vec_cell y5).1; replace y6 := (hW.to1.vec_cell y6).1; replace y7 := (hW.to1.vec_cell y7).1; replace y8 := (hW.to1.vec_cell y8).1; replace y9 := (hW.to1.vec_cell y9).1; replace hW := Lib.hid hW; go_simp; try rfl
                    case z204 =>
                    simp only [Act.put, List.setIfInBounds_toArray, List.set_cons_succ, List.set_cons_zero, List.getElem_toArray, List.getElem_cons_zero, List.getElem_cons_succ]
                    refine hl_take ?v205 rfl (by kernel_rfl) ?y205 ?z205
                    case y205 => intro W hW; skip; replace hW := Lib.hid hW; go_simp; try rfl
                    case z205 =>
                    simp only [Act.put, List.setIfInBounds_toArray, List.set_cons_succ, List.set_cons_zero, List.getElem_toArray, List.getElem_cons_zero, List.getElem_cons_succ]
                    refine hl_take ?v206 rfl (by kernel_rfl) ?y206 ?z206
                    case y206 => intro W hW; change Sep W _ at hW; obtain ⟨_, x0, x1, x2, x3, x4, x5, x6, x7, x8, x9, _⟩ := b10 hW; obtain ⟨y0, y1, y2, y3, y4, y5, y6, y7, y8, y9⟩ := sp10 hu.out; replace y0 := (hW.to1.vec_cell y0).1; replace y1 := (hW.to1.vec_cell y1).1; replace y2 := (hW.to1.vec_cell y2).1; replace y3 := (hW.to1.vec_cell y3).1; replace y4 := (hW.to1.vec_cell y4).1; replace y5 := (hW.to1.vec_cell y5).1; replace y6 := (hW.to1.vec_cell y6).1; replace y7 := (hW.to1.vec_cell y7).1; replace y8 := (hW.to1.vec_cell y8).1; replace y9 := (hW.to1.vec_cell y9).1; replace hW := Lib.hid hW; go_simp; try rfl
                    case z206 =>
                    simp only [Act.put, List.setIfInBounds_toArray, List.set_cons_succ, List.set_cons_zero, List.getElem_toArray, List.getElem_cons_zero, List.getElem_cons_succ]
                    refine hl_take ?v207 rfl (by kernel_rfl) ?y207 ?z207
                    case y207 => intro W hW; skip; replace hW := Lib.hid hW; go_simp; try rfl
                    case z207 =>
                    simp only [Act.put, List.setIfInBounds_toArray, List.set_cons_succ, List.set_cons_zero, List.getElem_toArray, List.getElem_cons_zero, List.getElem_cons_succ]
                    refine hl_take ?v208 rfl (by kernel_rfl) ?y208 ?z208
                    case y208 => intro W hW; skip; replace hW := Lib.hid hW; go_simp; try rfl
                    case z208 =>
                    simp only [Act.put, List.setIfInBounds_toArray, List.set_cons_succ, List.set_cons_zero, List.getElem_toArray, List.getElem_cons_zero, List.getElem_cons_succ]
                    refine hl_take ?v209 rfl (by kernel_rfl) ?y209 ?z209
                    case y209 => intro W hW; skip; replace hW := Lib.hid hW; go_simp; try rfl
                    case z209 =>
                    simp only [Act.put, List.setIfInBounds_toArray, List.set_cons_succ, List.set_cons_zero, List.getElem_toArray, List.getElem_cons_zero, List.getElem_cons_succ]
                    refine hl_take ?v210 rfl (by kernel_rfl) ?y210 ?z210
                    case y210 => intro W hW; skip; replace hW := Lib.hid hW; go_simp; try rfl
                    case z210 =>
                    simp only [Act.put, List.setIfInBounds_toArray, List.set_cons_succ, List.set_cons_zero, List.getElem_toArray, List.getElem_cons_zero, List.getElem_cons_succ]
                    refine hl_take ?v211 rfl (by kernel_rfl) ?y211 ?z211
                    case y211 => intro W hW; skip; replace hW := Lib.hid hW; go_simp; try rfl
                    case z211 =>
                    simp only [Act.put, List.setIfInBounds_toArray, List.set_cons_succ, List.set_cons_zero, List.getElem_toArray, List.getElem_cons_zero, List.getElem_cons_succ]
                    refine hl_take ?v212 rfl (by kernel_rfl) ?y212 ?z212
                    case y212 => intro W hW; change Sep W _ at hW; obtain ⟨_, x0, x1, x2, x3, x4, x5, x6, x7, x8, x9, _⟩ := b10 hW; obtain ⟨y0, y1, y2, y3, y4, y5, y6, y7, y8, y9⟩ := sp10 hu.out; replace y0 := (hW.to1.vec_cell y0).1; replace y1 := (hW.to1.vec_cell y1).1; replace y2 := (hW.to1.vec_cell y2).1; replace y3 := (hW.to1.vec_cell y3).1; replace y4 := (hW.to1.vec_cell y4).1; replace y5 := (hW.to1.vec_cell y5).1; replace y6 := (hW.to1.vec_cell y6).1; replace y7 := (hW.to1.vec_cell y7).1; replace y8 := (hW.to1.vec_cell y8).1; replace y9 := (hW.to1.vec_cell y9).1; replace hW := Lib.hid hW; go_simp; try rfl
                    case z212 =>
                    simp only [Act.put, List.setIfInBounds_toArray, List.set_cons_succ, List.set_cons_zero, List.getElem_toArray, List.getElem_cons_zero, List.getElem_cons_succ]
                    refine hl_take ?v213 rfl (by kernel_rfl) ?y213 ?z213
                    case y213 => intro W hW; change Sep W _ at hW; obtain ⟨_, x0, x1, x2, x3, x4, x5, x6, x7, x8, x9, _⟩ := b10 hW; obtain ⟨y0, y1, y2, y3, y4, y5, y6, y7, y8, y9⟩ := sp10 hu.out; replace y0 := (hW.to1.vec_cell y0).1; replace y1 := (hW.to1.vec_cell y1).1; replace y2 := (hW.to1.vec_cell y2).1; replace y3 := (hW.to1.vec_cell y3).1; replace y4 := (hW.to1.vec_cell y4).1; replace y5 := (hW.to1.vec_cell y5).1; replace y6 := (hW.to1.vec_cell y6).1; replace y7 := (hW.to1.vec_cell y7).1; replace y8 := (hW.to1.vec_cell y8).1; replace y9 := (hW.to1.vec_cell y9).1; replace hW := Lib.hid hW; go_simp; try rfl
                    case z213 =>
                    simp only [Act.put, List.setIfInBounds_toArray, List.set_cons_succ, List.set_cons_zero, List.getElem_toArray, List.getElem_cons_zero, List.getElem_cons_succ]
                    refine hl_one rfl (by kernel_rfl) (fun K hK => ?_)
                    go_simp
                    refine (HBf.out _).mono ?_
                    rintro e w1 ⟨rfl, q1⟩
                    replace hS := Lib.hid (hS.out.below q1)
                    clear q1
                    refine hK.out _ _ hS.out ?_
                    clear hK K
                    try simp only [Act.put, List.setIfInBounds_toArray, List.set_cons_succ, List.set_cons_zero, List.getElem_toArray, List.getElem_cons_zero, List.getElem_cons_succ]
                    refine hl_take ?v214 rfl (by kernel_rfl) ?y214 ?z214
                    case y214 => intro W hW; skip; replace hW := Lib.hid hW; go_simp; try rfl
                    case z214 =>
                    simp only [Act.put, List.setIfInBounds_toArray, List.set_cons_succ, List.set_cons_zero, List.getElem_toArray, List.getElem_cons_zero, List.getElem_cons_succ]
                    refine hl_take ?v215 rfl (by kernel_rfl) ?y215 ?z215
                    case y215 => intro W hW; skip; replace hW := Lib.hid hW; go_simp; try rfl
                    case z215 =>
                    simp only [Act.put, List.setIfInBounds_toArray, List.set_cons_succ, List.set_cons_zero, List.getElem_toArray, List.getElem_cons_zero, List.getElem_cons_succ]
                    refine hl_done ?_
                    clear hB
                    replace hB := hS
                    clear hS
                    go_wp2_with fail
                    go_roundw
                    case rel => exact ⟨k + 1, by omega, by go_num, hB⟩
                    case measure => simp [intOf]; omega
                  · have hthb : (u.thread == thread) = false := beq_eq_false_iff_ne.2 hth
                    clear hap hth HBf
                    go_wp2_with fail
                    have hS := Lib.hid (show (fun W : World => Sep W [blk xb 36 #[.int .i64 call, .int .i64 thread, .int .i64 (f : Int), .int .i64 to_, .int .i64 kind, .int .i64 txn, .int .i64 t_, .int .i64 r_, .int .i64 mode, .int .i64 code], vec 36 10 (.slice (some ⟨g, 0, none⟩) n sc) n (scells S), old w]) _ from hB.out.drew)
                    refine hl_begin (fun W : World => Sep W [blk xb 36 #[.int .i64 call, .int .i64 thread, .int .i64 (f : Int), .int .i64 to_, .int .i64 kind, .int .i64 txn, .int .i64 t_, .int .i64 r_, .int .i64 mode, .int .i64 code], vec 36 10 (.slice (some ⟨g, 0, none⟩) n sc) n (scells S), old w]) [(0, true), (1, true), (2, true), (3, true), (4, true), (5, true), (6, true), (7, true), (8, true), (9, true), (10, true), (11, true), (12, true), (13, true), (14, false), (15, true), (16, true)] (by kernel_rfl) (by kernel_rfl) (by kernel_rfl) rfl (fun _ _ _ _ _ h => h) hS.out ?_
                    change HL _ _ _ _ _ _ (World.drew _)
                    generalize World.drew _ = wd at *
                    refine hl_take ?v216 rfl (by kernel_rfl) ?y216 ?z216
                    case y216 => intro W hW; skip; replace hW := Lib.hid hW; go_simp; try rfl
                    case z216 =>
                    simp only [Act.put, List.setIfInBounds_toArray, List.set_cons_succ, List.set_cons_zero, List.getElem_toArray, List.getElem_cons_zero, List.getElem_cons_succ]
                    refine hl_take ?v217 rfl (by kernel_rfl) ?y217 ?z217
                    case y217 => intro W hW; skip; replace hW := Lib.hid hW; go_simp; try rfl
                    case z217 =>
                    simp only [Act.put, List.setIfInBounds_toArray, List.set_cons_succ, List.set_cons_zero, List.getElem_toArray, List.getElem_cons_zero, List.getElem_cons_succ]
                    refine hl_take ?v218 rfl (by kernel_rfl) ?y218 ?z218
                    case y218 => intro W hW; skip; replace hW := Lib.hid hW; go_simp; try rfl
                    case z218 =>
                    simp only [Act.put, List.setIfInBounds_toArray, List.set_cons_succ, List.set_cons_zero, List.getElem_toArray, List.getElem_cons_zero, List.getElem_cons_succ]
                    refine hl_take ?v219 rfl (by kernel_rfl) ?y219 ?z219
                    case y219 => intro W hW; skip; replace hW := Lib.hid hW; go_simp; try rfl
                    case z219 =>
                    simp only [Act.put, List.setIfInBounds_toArray, List.set_cons_succ, List.set_cons_zero, List.getElem_toArray, List.getElem_cons_zero, List.getElem_cons_succ]
                    refine hl_take ?v220 rfl (by kernel_rfl) ?y220 ?z220
                    case y220 => intro W hW; change Sep W _ at hW; obtain ⟨_, x0, x1, x2, x3, x4, x5, x6, x7, x8, x9, _⟩ := b10 hW; obtain ⟨y0, y1, y2, y3, y4, y5, y6, y7, y8, y9⟩ := sp10 hu.out; replace y0 := (hW.to1.vec_cell y0).1; replace y1 := (hW.to1.vec_cell y1).1; replace y2 := (hW.to1.vec_cell y2).1; replace y3 := (hW.to1.vec_cell y3).1; replace y4 := (hW.to1.vec_cell y4).1; replace y5 := (hW.to1.vec_cell y5).1; replace y6 := (hW.to1.vec_cell y6).1; replace y7 := (hW.to1.vec_cell y7).1; replace y8 := (hW.to1.vec_cell y8).1; replace y9 := (hW.to1.vec_cell y9).1; replace hW := Lib.hid hW; go_simp; try rfl
                    case z220 =>
                    simp only [Act.put, List.setIfInBounds_toArray, List.set_cons_succ, List.set_cons_zero, List.getElem_toArray, List.getElem_cons_zero, List.getElem_cons_succ]
                    refine hl_take ?v221 rfl (by kernel_rfl) ?y221 ?z221
                    case y221 => intro W hW; skip; replace hW := Lib.hid hW; go_simp; try rfl
                    case z221 =>
                    simp only [Act.put, List.setIfInBounds_toArray, List.set_cons_succ, List.set_cons_zero, List.getElem_toArray, List.getElem_cons_zero, List.getElem_cons_succ]
                    refine hl_take ?v222 rfl (by kernel_rfl) ?y222 ?z222
                    case y222 => intro W hW; change Sep W _ at hW; obtain ⟨_, x0, x1, x2, x3, x4, x5, x6, x7, x8, x9, _⟩ := b10 hW; obtain ⟨y0, y1, y2, y3, y4, y5, y6, y7, y8, y9⟩ := sp10 hu.out; replace y0 := (hW.to1.vec_cell y0).1; replace y1 := (hW.to1.vec_cell y1).1; replace y2 := (hW.to1.vec_cell y2).1; replace y3 := (hW.to1.vec_cell y3).1; replace y4 := (hW.to1.vec_cell y4).1; replace y5 := (hW.to1.vec_cell y5).1; replace y6 := (hW.to1.vec_cell y6).1; replace y7 := (hW.to1.vec_cell y7).1; replace y8 := (hW.to1.vec_cell y8).1; replace y9 := (hW.to1.vec_cell y9).1; replace hW := Lib.hid hW; go_simp; try rfl
                    case z222 =>
                    simp only [Act.put, List.setIfInBounds_toArray, List.set_cons_succ, List.set_cons_zero, List.getElem_toArray, List.getElem_cons_zero, List.getElem_cons_succ]
                    refine hl_take ?v223 rfl (by kernel_rfl) ?y223 ?z223
                    case y223 => intro W hW; skip; replace hW := Lib.hid hW; go_simp; try rfl
                    case z223 =>
                    simp only [Act.put, List.setIfInBounds_toArray, List.set_cons_succ, List.set_cons_zero, List.getElem_toArray, List.getElem_cons_zero, List.getElem_cons_succ]
                    refine hl_take ?v224 rfl (by kernel_rfl) ?y224 ?z224
                    case y224 => intro W hW; skip; replace hW := Lib.hid hW; go_simp; try rfl
                    case z224 =>
                    simp only [Act.put, List.setIfInBounds_toArray, List.set_cons_succ, List.set_cons_zero, List.getElem_toArray, List.getElem_cons_zero, List.getElem_cons_succ]
                    refine hl_skip rfl (by kernel_rfl) ?_
                    simp only [Act.put, List.setIfInBounds_toArray, List.set_cons_succ, List.set_cons_zero, List.getElem_toArray, List.getElem_cons_zero, List.getElem_cons_succ]
                    refine hl_skip rfl (by kernel_rfl) ?_
                    simp only [Act.put, List.setIfInBounds_toArray, List.set_cons_succ, List.set_cons_zero, List.getElem_toArray, List.getElem_cons_zero, List.getElem_cons_succ]
                    refine hl_skip rfl (by kernel_rfl) ?_
                    simp only [Act.put, List.setIfInBounds_toArray, List.set_cons_succ, List.set_cons_zero, List.getElem_toArray, List.getElem_cons_zero, List.getElem_cons_succ]
                    refine hl_skip rfl (by kernel_rfl) ?_
                    simp only [Act.put, List.setIfInBounds_toArray, List.set_cons_succ, List.set_cons_zero, List.getElem_toArray, List.getElem_cons_zero, List.getElem_cons_succ]
                    refine hl_skip rfl (by kernel_rfl) ?_
                    simp only [Act.put, List.setIfInBounds_toArray, List.set_cons_succ, List.set_cons_zero, List.getElem_toArray, List.getElem_cons_zero, List.getElem_cons_succ]
                    refine hl_skip1 rfl (by kernel_rfl) ?_
                    simp only [Act.put, List.setIfInBounds_toArray, List.set_cons_succ, List.set_cons_zero, List.getElem_toArray, List.getElem_cons_zero, List.getElem_cons_succ]
                    refine hl_skip rfl (by kernel_rfl) ?_
                    simp only [Act.put, List.setIfInBounds_toArray, List.set_cons_succ, List.set_cons_zero, List.getElem_toArray, List.getElem_cons_zero, List.getElem_cons_succ]
                    refine hl_take ?v225 rfl (by kernel_rfl) ?y225 ?z225
                    case y225 => intro W hW; skip; replace hW := Lib.hid hW; go_simp; try rfl
                    case z225 =>
                    simp only [Act.put, List.setIfInBounds_toArray, List.set_cons_succ, List.set_cons_zero, List.getElem_toArray, List.getElem_cons_zero, List.getElem_cons_succ]
                    refine hl_done ?_
                    clear hB
                    replace hB := hS
                    clear hS
                    go_wp2_with fail
                    go_roundw
                    case rel => exact ⟨k + 1, by omega, by go_num, hB⟩
                    case measure => simp [intOf]; omega
                · have i5 : ¬ (k : Int) < (i : Int) := by omega
                  go_wp2_with fail
                  go_roundw
                  case rel => exact ⟨i + 1, m, by omega, rfl, by go_num, hcl2, by omega, Lib.hid hB.out.tail⟩
                  case measure => simp [intOf]; omega
            | false =>
              have hto : 0 ≤ to_ := by unfold opens at hop; simpa using hop
              obtain ⟨t, rfl⟩ := Int.eq_ofNat_of_zero_le hto
              have hft : (f : Int) < (t : Int) := by have := hat.out; have h2 := hn.out; (try simp only at this); omega
              have htl : (t : Int) < (len : Int) := by have := hat.out; have h2 := hn.out; (try simp only at this); omega
              have ht0 : (0 : Int) ≤ (t : Int) := by omega
              obtain ⟨e', he', hei, hec, hed⟩ := hends.out hop
              simp only [Int.toNat_natCast] at he' hec hed
              have het := Lib.hid (hz.out t e' he')
              have hcl2 := hcl0.out
              rw [hop, if_neg (by simp), hcl.out] at hcl2
              replace hcl2 := Lib.hid hcl2
              simp only [hei, hec, hed] at het
              replace het := Lib.hid het.out
              have q3 : decide (t ≤ f) = false := decide_eq_false (by omega)
              have q4 : decide (len ≤ t) = false := decide_eq_false (by omega)
              clear hop he' hei hec hed hto
              go_wp2_with fail
              clear v0 v1 v2 v3 v4 v5 v6 v7 v8 v9
              have hS := Lib.hid (show (fun W : World => Sep W [blk xb 36 #[.int .i64 call, .int .i64 thread, .int .i64 (f : Int), .int .i64 (t : Int), .int .i64 kind, .int .i64 txn, .int .i64 t_, .int .i64 r_, .int .i64 mode, .int .i64 code], vec 36 10 (.slice (some ⟨g, 0, none⟩) n sc) n (scells S), old w]) _ from hB.out.drew)
              try dsimp only [List.append]
              refine hl_begin_n (fun W : World => Sep W [blk xb 36 #[.int .i64 call, .int .i64 thread, .int .i64 (f : Int), .int .i64 (t : Int), .int .i64 kind, .int .i64 txn, .int .i64 t_, .int .i64 r_, .int .i64 mode, .int .i64 code], vec 36 10 (.slice (some ⟨g, 0, none⟩) n sc) n (scells S), old w]) ((0, true) :: (1, true) :: (2, true) :: (3, true) :: (4, true) :: (5, true) :: (6, true) :: (7, true) :: (8, true) :: (9, true) :: (10, true) :: (11, true) :: (12, true) :: (13, true) :: (14, true) :: (15, true) :: (16, true) :: (17, true) :: (18, true) :: (19, true) :: (20, true) :: (21, true) :: (22, true) :: (23, true) :: (24, true) :: (25, true) :: (26, true) :: (27, true) :: (28, true) :: (29, true) :: (30, true) :: (31, true) :: (32, true) :: (33, true) :: (34, true) :: (35, true) :: (36, true) :: (37, true) :: (38, true) :: (39, true) :: (40, true) :: (41, true) :: (42, true) :: (43, true) :: []) (([], [10], 126) :: ([0], [125], 127) :: ([], [10], 128) :: ([2], [127], 129) :: ([1, 3], [126, 128], 130) :: ([4], [129], 131) :: ([5], [10, 130], 132) :: ([6, 5], [131, 130], 133) :: ([5], [0, 130], 134) :: ([8, 5], [133, 130], 135) :: ([7, 9, 5], [132, 134, 130], 136) :: ([5, 10], [130, 135], 137) :: ([11, 5], [136], 138) :: ([12], [0, 137], 139) :: ([12], [10, 137], 140) :: ([14, 12], [139, 137], 141) :: ([13, 15, 12], [138, 140, 137], 142) :: ([16, 12], [141, 137], 143) :: ([17, 12], [142, 137], 144) :: ([12, 18], [137, 143], 145) :: ([19, 12], [144], 146) :: ([20], [0, 145], 147) :: ([20], [10, 145], 148) :: ([22, 20], [147, 145], 149) :: ([21, 23, 20], [146, 148, 145], 150) :: ([24, 20], [149, 145], 151) :: ([25, 20], [150, 145], 152) :: ([20], [10, 145], 153) :: ([27, 20], [152, 145], 154) :: ([26, 28, 20], [151, 153, 145], 155) :: ([20, 29], [145, 154], 156) :: ([30, 20], [155], 157) :: ([31], [0, 156], 158) :: ([31], [10, 156], 159) :: ([33, 31], [158, 156], 160) :: ([32, 34, 31], [157, 159, 156], 161) :: ([35, 31], [160, 156], 162) :: ([36, 31], [161, 156], 163) :: ([37, 31], [162, 156], 164) :: ([31], [10, 156], 165) :: ([39, 31], [164, 156], 166) :: ([40, 31], [165, 156], 167) :: ([38, 41, 31], [163, 166, 156], 168) :: ([31, 42], [156, 167], 169) :: []) (by kernel_rfl) (by kernel_rfl) (by kernel_rfl) (by kernel_rfl) rfl (by intro _ _ _ _ _ h; exact h) hS.out ?_
              change HL _ _ _ _ _ _ (World.drew _)
              generalize World.drew _ = wd at *
              refine hl_take ?v226 rfl (by kernel_rfl) ?y226 ?z226
              case y226 => intro W hW; skip; replace hW := Lib.hid hW; go_simp; try rfl
              case z226 =>
              simp only [Act.put, List.setIfInBounds_toArray, List.set_cons_succ, List.set_cons_zero, List.getElem_toArray, List.getElem_cons_zero, List.getElem_cons_succ]
              refine hl_take ?v227 rfl (by kernel_rfl) ?y227 ?z227
              case y227 => intro W hW; change Sep W _ at hW; obtain ⟨_, x0, x1, x2, x3, x4, x5, x6, x7, x8, x9, _⟩ := b10 hW; obtain ⟨y0, y1, y2, y3, y4, y5, y6, y7, y8⟩ := het.out; replace y0 := (hW.to2.gold.cell (p := ⟨b, off + t * 9, none⟩) hbl).trans y0; replace y1 := (hW.to2.gold.cell (p := ⟨b, off + t * 9 + 1, none⟩) hbl).trans y1; replace y2 := (hW.to2.gold.cell (p := ⟨b, off + t * 9 + 2, none⟩) hbl).trans y2; replace y3 := (hW.to2.gold.cell (p := ⟨b, off + t * 9 + 3, none⟩) hbl).trans y3; replace y4 := (hW.to2.gold.cell (p := ⟨b, off + t * 9 + 4, none⟩) hbl).trans y4; replace y5 := (hW.to2.gold.cell (p := ⟨b, off + t * 9 + 5, none⟩) hbl).trans y5; replace y6 := (hW.to2.gold.cell (p := ⟨b, off + t * 9 + 6, none⟩) hbl).trans y6; replace y7 := (hW.to2.gold.cell (p := ⟨b, off + t * 9 + 7, none⟩) hbl).trans y7; replace y8 := (hW.to2.gold.cell (p := ⟨b, off + t * 9 + 8, none⟩) hbl).trans y8; replace hW := Lib.hid hW; go_simp; try rfl
              case z227 =>
              simp only [Act.put, List.setIfInBounds_toArray, List.set_cons_succ, List.set_cons_zero, List.getElem_toArray, List.getElem_cons_zero, List.getElem_cons_succ]
              refine hl_take ?v228 rfl (by kernel_rfl) ?y228 ?z228
              case y228 => intro W hW; skip; replace hW := Lib.hid hW; go_simp; try rfl
              case z228 =>
              simp only [Act.put, List.setIfInBounds_toArray, List.set_cons_succ, List.set_cons_zero, List.getElem_toArray, List.getElem_cons_zero, List.getElem_cons_succ]
              refine hl_take ?v229 rfl (by kernel_rfl) ?y229 ?z229
              case y229 => intro W hW; change Sep W _ at hW; obtain ⟨_, x0, x1, x2, x3, x4, x5, x6, x7, x8, x9, _⟩ := b10 hW; obtain ⟨y0, y1, y2, y3, y4, y5, y6, y7, y8⟩ := het.out; replace y0 := (hW.to2.gold.cell (p := ⟨b, off + t * 9, none⟩) hbl).trans y0; replace y1 := (hW.to2.gold.cell (p := ⟨b, off + t * 9 + 1, none⟩) hbl).trans y1; replace y2 := (hW.to2.gold.cell (p := ⟨b, off + t * 9 + 2, none⟩) hbl).trans y2; replace y3 := (hW.to2.gold.cell (p := ⟨b, off + t * 9 + 3, none⟩) hbl).trans y3; replace y4 := (hW.to2.gold.cell (p := ⟨b, off + t * 9 + 4, none⟩) hbl).trans y4; replace y5 := (hW.to2.gold.cell (p := ⟨b, off + t * 9 + 5, none⟩) hbl).trans y5; replace y6 := (hW.to2.gold.cell (p := ⟨b, off + t * 9 + 6, none⟩) hbl).trans y6; replace y7 := (hW.to2.gold.cell (p := ⟨b, off + t * 9 + 7, none⟩) hbl).trans y7; replace y8 := (hW.to2.gold.cell (p := ⟨b, off + t * 9 + 8, none⟩) hbl).trans y8; replace hW := Lib.hid hW; go_simp; try rfl
              case z229 =>
              simp only [Act.put, List.setIfInBounds_toArray, List.set_cons_succ, List.set_cons_zero, List.getElem_toArray, List.getElem_cons_zero, List.getElem_cons_succ]
              refine hl_take ?v230 rfl (by kernel_rfl) ?y230 ?z230
              case y230 => intro W hW; skip; replace hW := Lib.hid hW; go_simp; try rfl
              case z230 =>
              simp only [Act.put, List.setIfInBounds_toArray, List.set_cons_succ, List.set_cons_zero, List.getElem_toArray, List.getElem_cons_zero, List.getElem_cons_succ]
              refine hl_take ?v231 rfl (by kernel_rfl) ?y231 ?z231
              case y231 => intro W hW; skip; replace hW := Lib.hid hW; go_simp; try rfl
              case z231 =>
              simp only [Act.put, List.setIfInBounds_toArray, List.set_cons_succ, List.set_cons_zero, List.getElem_toArray, List.getElem_cons_zero, List.getElem_cons_succ]
              refine hl_take ?v232 rfl (by kernel_rfl) ?y232 ?z232
              case y232 => intro W hW; skip; replace hW := Lib.hid hW; go_simp; try rfl
              case z232 =>
              simp only [Act.put, List.setIfInBounds_toArray, List.set_cons_succ, List.set_cons_zero, List.getElem_toArray, List.getElem_cons_zero, List.getElem_cons_succ]
              refine hl_take ?v233 rfl (by kernel_rfl) ?y233 ?z233
              case y233 => intro W hW; change Sep W _ at hW; obtain ⟨_, x0, x1, x2, x3, x4, x5, x6, x7, x8, x9, _⟩ := b10 hW; obtain ⟨y0, y1, y2, y3, y4, y5, y6, y7, y8⟩ := het.out; replace y0 := (hW.to2.gold.cell (p := ⟨b, off + t * 9, none⟩) hbl).trans y0; replace y1 := (hW.to2.gold.cell (p := ⟨b, off + t * 9 + 1, none⟩) hbl).trans y1; replace y2 := (hW.to2.gold.cell (p := ⟨b, off + t * 9 + 2, none⟩) hbl).trans y2; replace y3 := (hW.to2.gold.cell (p := ⟨b, off + t * 9 + 3, none⟩) hbl).trans y3; replace y4 := (hW.to2.gold.cell (p := ⟨b, off + t * 9 + 4, none⟩) hbl).trans y4; replace y5 := (hW.to2.gold.cell (p := ⟨b, off + t * 9 + 5, none⟩) hbl).trans y5; replace y6 := (hW.to2.gold.cell (p := ⟨b, off + t * 9 + 6, none⟩) hbl).trans y6; replace y7 := (hW.to2.gold.cell (p := ⟨b, off + t * 9 + 7, none⟩) hbl).trans y7; replace y8 := (hW.to2.gold.cell (p := ⟨b, off + t * 9 + 8, none⟩) hbl).trans y8; replace hW := Lib.hid hW; go_simp; try rfl
              case z233 =>
              simp only [Act.put, List.setIfInBounds_toArray, List.set_cons_succ, List.set_cons_zero, List.getElem_toArray, List.getElem_cons_zero, List.getElem_cons_succ]
              refine hl_take ?v234 rfl (by kernel_rfl) ?y234 ?z234
              case y234 => intro W hW; skip; replace hW := Lib.hid hW; go_simp; try rfl
              case z234 =>
              simp only [Act.put, List.setIfInBounds_toArray, List.set_cons_succ, List.set_cons_zero, List.getElem_toArray, List.getElem_cons_zero, List.getElem_cons_succ]
              refine hl_take ?v235 rfl (by kernel_rfl) ?y235 ?z235
              case y235 => intro W hW; skip; replace hW := Lib.hid hW; go_simp; try rfl
              case z235 =>
              simp only [Act.put, List.setIfInBounds_toArray, List.set_cons_succ, List.set_cons_zero, List.getElem_toArray, List.getElem_cons_zero, List.getElem_cons_succ]
              refine hl_take ?v236 rfl (by kernel_rfl) ?y236 ?z236
              case y236 => intro W hW; skip; replace hW := Lib.hid hW; go_simp; try rfl
              case z236 =>
              simp only [Act.put, List.setIfInBounds_toArray, List.set_cons_succ, List.set_cons_zero, List.getElem_toArray, List.getElem_cons_zero, List.getElem_cons_succ]
              refine hl_take ?v237 rfl (by kernel_rfl) ?y237 ?z237
              case y237 => intro W hW; skip; replace hW := Lib.hid hW; go_simp; try rfl
              case z237 =>
              simp only [Act.put, List.setIfInBounds_toArray, List.set_cons_succ, List.set_cons_zero, List.getElem_toArray, List.getElem_cons_zero, List.getElem_cons_succ]
              refine hl_take ?v238 rfl (by kernel_rfl) ?y238 ?z238
              case y238 => intro W hW; skip; replace hW := Lib.hid hW; go_simp; try rfl
              case z238 =>
              simp only [Act.put, List.setIfInBounds_toArray, List.set_cons_succ, List.set_cons_zero, List.getElem_toArray, List.getElem_cons_zero, List.getElem_cons_succ]
              refine hl_take ?v239 rfl (by kernel_rfl) ?y239 ?z239
              case y239 => intro W hW; skip; replace hW := Lib.hid hW; go_simp; try rfl
              case z239 =>
              simp only [Act.put, List.setIfInBounds_toArray, List.set_cons_succ, List.set_cons_zero, List.getElem_toArray, List.getElem_cons_zero, List.getElem_cons_succ]
              refine hl_take ?v240 rfl (by kernel_rfl) ?y240 ?z240
              case y240 => intro W hW; skip; replace hW := Lib.hid hW; go_simp; try rfl
              case z240 =>
              simp only [Act.put, List.setIfInBounds_toArray, List.set_cons_succ, List.set_cons_zero, List.getElem_toArray, List.getElem_cons_zero, List.getElem_cons_succ]
              refine hl_take ?v241 rfl (by kernel_rfl) ?y241 ?z241
              case y241 => intro W hW; change Sep W _ at hW; obtain ⟨_, x0, x1, x2, x3, x4, x5, x6, x7, x8, x9, _⟩ := b10 hW; obtain ⟨y0, y1, y2, y3, y4, y5, y6, y7, y8⟩ := het.out; replace y0 := (hW.to2.gold.cell (p := ⟨b, off + t * 9, none⟩) hbl).trans y0; replace y1 := (hW.to2.gold.cell (p := ⟨b, off + t * 9 + 1, none⟩) hbl).trans y1; replace y2 := (hW.to2.gold.cell (p := ⟨b, off + t * 9 + 2, none⟩) hbl).trans y2; replace y3 := (hW.to2.gold.cell (p := ⟨b, off + t * 9 + 3, none⟩) hbl).trans y3; replace y4 := (hW.to2.gold.cell (p := ⟨b, off + t * 9 + 4, none⟩) hbl).trans y4; replace y5 := (hW.to2.gold.cell (p := ⟨b, off + t * 9 + 5, none⟩) hbl).trans y5; replace y6 := (hW.to2.gold.cell (p := ⟨b, off + t * 9 + 6, none⟩) hbl).trans y6; replace y7 := (hW.to2.gold.cell (p := ⟨b, off + t * 9 + 7, none⟩) hbl).trans y7; replace y8 := (hW.to2.gold.cell (p := ⟨b, off + t * 9 + 8, none⟩) hbl).trans y8; replace hW := Lib.hid hW; go_simp; try rfl
              case z241 =>
              simp only [Act.put, List.setIfInBounds_toArray, List.set_cons_succ, List.set_cons_zero, List.getElem_toArray, List.getElem_cons_zero, List.getElem_cons_succ]
              refine hl_take ?v242 rfl (by kernel_rfl) ?y242 ?z242
              case y242 => intro W hW; skip; replace hW := Lib.hid hW; go_simp; try rfl
              case z242 =>
              simp only [Act.put, List.setIfInBounds_toArray, List.set_cons_succ, List.set_cons_zero, List.getElem_toArray, List.getElem_cons_zero, List.getElem_cons_succ]
              refine hl_take ?v243 rfl (by kernel_rfl) ?y243 ?z243
              case y243 => intro W hW; skip; replace hW := Lib.hid hW; go_simp; try rfl
              case z243 =>
              simp only [Act.put, List.setIfInBounds_toArray, List.set_cons_succ, List.set_cons_zero, List.getElem_toArray, List.getElem_cons_zero, List.getElem_cons_succ]
              refine hl_take ?v244 rfl (by kernel_rfl) ?y244 ?z244
              case y244 => intro W hW; change Sep W _ at hW; obtain ⟨_, x0, x1, x2, x3, x4, x5, x6, x7, x8, x9, _⟩ := b10 hW; obtain ⟨y0, y1, y2, y3, y4, y5, y6, y7, y8⟩ := het.out; replace y0 := (hW.to2.gold.cell (p := ⟨b, off + t * 9, none⟩) hbl).trans y0; replace y1 := (hW.to2.gold.cell (p := ⟨b, off + t * 9 + 1, none⟩) hbl).trans y1; replace y2 := (hW.to2.gold.cell (p := ⟨b, off + t * 9 + 2, none⟩) hbl).trans y2; replace y3 := (hW.to2.gold.cell (p := ⟨b, off + t * 9 + 3, none⟩) hbl).trans y3; replace y4 := (hW.to2.gold.cell (p := ⟨b, off + t * 9 + 4, none⟩) hbl).trans y4; replace y5 := (hW.to2.gold.cell (p := ⟨b, off + t * 9 + 5, none⟩) hbl).trans y5; replace y6 := (hW.to2.gold.cell (p := ⟨b, off + t * 9 + 6, none⟩) hbl).trans y6; replace y7 := (hW.to2.gold.cell (p := ⟨b, off + t * 9 + 7, none⟩) hbl).trans y7; replace y8 := (hW.to2.gold.cell (p := ⟨b, off + t * 9 + 8, none⟩) hbl).trans y8; replace hW := Lib.hid hW; go_simp; try rfl
              case z244 =>
              simp only [Act.put, List.setIfInBounds_toArray, List.set_cons_succ, List.set_cons_zero, List.getElem_toArray, List.getElem_cons_zero, List.getElem_cons_succ]
              refine hl_take ?v245 rfl (by kernel_rfl) ?y245 ?z245
              case y245 => intro W hW; skip; replace hW := Lib.hid hW; go_simp; try rfl
              case z245 =>
              simp only [Act.put, List.setIfInBounds_toArray, List.set_cons_succ, List.set_cons_zero, List.getElem_toArray, List.getElem_cons_zero, List.getElem_cons_succ]
              refine hl_take ?v246 rfl (by kernel_rfl) ?y246 ?z246
              case y246 => intro W hW; skip; replace hW := Lib.hid hW; go_simp; try rfl
              case z246 =>
              simp only [Act.put, List.setIfInBounds_toArray, List.set_cons_succ, List.set_cons_zero, List.getElem_toArray, List.getElem_cons_zero, List.getElem_cons_succ]
              refine hl_take ?v247 rfl (by kernel_rfl) ?y247 ?z247
              case y247 => intro W hW; skip; replace hW := Lib.hid hW; go_simp; try rfl
              case z247 =>
              simp only [Act.put, List.setIfInBounds_toArray, List.set_cons_succ, List.set_cons_zero, List.getElem_toArray, List.getElem_cons_zero, List.getElem_cons_succ]
              refine hl_take ?v248 rfl (by kernel_rfl) ?y248 ?z248
              case y248 => intro W hW; skip; replace hW := Lib.hid hW; go_simp; try rfl
              case z248 =>
              simp only [Act.put, List.setIfInBounds_toArray, List.set_cons_succ, List.set_cons_zero, List.getElem_toArray, List.getElem_cons_zero, List.getElem_cons_succ]
              refine hl_take ?v249 rfl (by kernel_rfl) ?y249 ?z249
              case y249 => intro W hW; change Sep W _ at hW; obtain ⟨_, x0, x1, x2, x3, x4, x5, x6, x7, x8, x9, _⟩ := b10 hW; obtain ⟨y0, y1, y2, y3, y4, y5, y6, y7, y8⟩ := het.out; replace y0 := (hW.to2.gold.cell (p := ⟨b, off + t * 9, none⟩) hbl).trans y0; replace y1 := (hW.to2.gold.cell (p := ⟨b, off + t * 9 + 1, none⟩) hbl).trans y1; replace y2 := (hW.to2.gold.cell (p := ⟨b, off + t * 9 + 2, none⟩) hbl).trans y2; replace y3 := (hW.to2.gold.cell (p := ⟨b, off + t * 9 + 3, none⟩) hbl).trans y3; replace y4 := (hW.to2.gold.cell (p := ⟨b, off + t * 9 + 4, none⟩) hbl).trans y4; replace y5 := (hW.to2.gold.cell (p := ⟨b, off + t * 9 + 5, none⟩) hbl).trans y5; replace y6 := (hW.to2.gold.cell (p := ⟨b, off + t * 9 + 6, none⟩) hbl).trans y6; replace y7 := (hW.to2.gold.cell (p := ⟨b, off + t * 9 + 7, none⟩) hbl).trans y7; replace y8 := (hW.to2.gold.cell (p := ⟨b, off + t * 9 + 8, none⟩) hbl).trans y8; replace hW := Lib.hid hW; go_simp; try rfl
              case z249 =>
              simp only [Act.put, List.setIfInBounds_toArray, List.set_cons_succ, List.set_cons_zero, List.getElem_toArray, List.getElem_cons_zero, List.getElem_cons_succ]
              refine hl_take ?v250 rfl (by kernel_rfl) ?y250 ?z250
              case y250 => intro W hW; skip; replace hW := Lib.hid hW; go_simp; try rfl
              case z250 =>
              simp only [Act.put, List.setIfInBounds_toArray, List.set_cons_succ, List.set_cons_zero, List.getElem_toArray, List.getElem_cons_zero, List.getElem_cons_succ]
              refine hl_take ?v251 rfl (by kernel_rfl) ?y251 ?z251
              case y251 => intro W hW; skip; replace hW := Lib.hid hW; go_simp; try rfl
              case z251 =>
              simp only [Act.put, List.setIfInBounds_toArray, List.set_cons_succ, List.set_cons_zero, List.getElem_toArray, List.getElem_cons_zero, List.getElem_cons_succ]
              refine hl_take ?v252 rfl (by kernel_rfl) ?y252 ?z252
              case y252 => intro W hW; change Sep W _ at hW; obtain ⟨_, x0, x1, x2, x3, x4, x5, x6, x7, x8, x9, _⟩ := b10 hW; obtain ⟨y0, y1, y2, y3, y4, y5, y6, y7, y8⟩ := het.out; replace y0 := (hW.to2.gold.cell (p := ⟨b, off + t * 9, none⟩) hbl).trans y0; replace y1 := (hW.to2.gold.cell (p := ⟨b, off + t * 9 + 1, none⟩) hbl).trans y1; replace y2 := (hW.to2.gold.cell (p := ⟨b, off + t * 9 + 2, none⟩) hbl).trans y2; replace y3 := (hW.to2.gold.cell (p := ⟨b, off + t * 9 + 3, none⟩) hbl).trans y3; replace y4 := (hW.to2.gold.cell (p := ⟨b, off + t * 9 + 4, none⟩) hbl).trans y4; replace y5 := (hW.to2.gold.cell (p := ⟨b, off + t * 9 + 5, none⟩) hbl).trans y5; replace y6 := (hW.to2.gold.cell (p := ⟨b, off + t * 9 + 6, none⟩) hbl).trans y6; replace y7 := (hW.to2.gold.cell (p := ⟨b, off + t * 9 + 7, none⟩) hbl).trans y7; replace y8 := (hW.to2.gold.cell (p := ⟨b, off + t * 9 + 8, none⟩) hbl).trans y8; replace hW := Lib.hid hW; go_simp; try rfl
              case z252 =>
              simp only [Act.put, List.setIfInBounds_toArray, List.set_cons_succ, List.set_cons_zero, List.getElem_toArray, List.getElem_cons_zero, List.getElem_cons_succ]
              refine hl_take ?v253 rfl (by kernel_rfl) ?y253 ?z253
              case y253 => intro W hW; skip; replace hW := Lib.hid hW; go_simp; try rfl
              case z253 =>
              simp only [Act.put, List.setIfInBounds_toArray, List.set_cons_succ, List.set_cons_zero, List.getElem_toArray, List.getElem_cons_zero, List.getElem_cons_succ]
              refine hl_take ?v254 rfl (by kernel_rfl) ?y254 ?z254
              case y254 => intro W hW; change Sep W _ at hW; obtain ⟨_, x0, x1, x2, x3, x4, x5, x6, x7, x8, x9, _⟩ := b10 hW; obtain ⟨y0, y1, y2, y3, y4, y5, y6, y7, y8⟩ := het.out; replace y0 := (hW.to2.gold.cell (p := ⟨b, off + t * 9, none⟩) hbl).trans y0; replace y1 := (hW.to2.gold.cell (p := ⟨b, off + t * 9 + 1, none⟩) hbl).trans y1; replace y2 := (hW.to2.gold.cell (p := ⟨b, off + t * 9 + 2, none⟩) hbl).trans y2; replace y3 := (hW.to2.gold.cell (p := ⟨b, off + t * 9 + 3, none⟩) hbl).trans y3; replace y4 := (hW.to2.gold.cell (p := ⟨b, off + t * 9 + 4, none⟩) hbl).trans y4; replace y5 := (hW.to2.gold.cell (p := ⟨b, off + t * 9 + 5, none⟩) hbl).trans y5; replace y6 := (hW.to2.gold.cell (p := ⟨b, off + t * 9 + 6, none⟩) hbl).trans y6; replace y7 := (hW.to2.gold.cell (p := ⟨b, off + t * 9 + 7, none⟩) hbl).trans y7; replace y8 := (hW.to2.gold.cell (p := ⟨b, off + t * 9 + 8, none⟩) hbl).trans y8; replace hW := Lib.hid hW; go_simp; try rfl
              case z254 =>
              simp only [Act.put, List.setIfInBounds_toArray, List.set_cons_succ, List.set_cons_zero, List.getElem_toArray, List.getElem_cons_zero, List.getElem_cons_succ]
              refine hl_take ?v255 rfl (by kernel_rfl) ?y255 ?z255
              case y255 => intro W hW; skip; replace hW := Lib.hid hW; go_simp; try rfl
              case z255 =>
              simp only [Act.put, List.setIfInBounds_toArray, List.set_cons_succ, List.set_cons_zero, List.getElem_toArray, List.getElem_cons_zero, List.getElem_cons_succ]
              refine hl_take ?v256 rfl (by kernel_rfl) ?y256 ?z256
              case y256 => intro W hW; skip; replace hW := Lib.hid hW; go_simp; try rfl
              case z256 =>
              simp only [Act.put, List.setIfInBounds_toArray, List.set_cons_succ, List.set_cons_zero, List.getElem_toArray, List.getElem_cons_zero, List.getElem_cons_succ]
              refine hl_take ?v257 rfl (by kernel_rfl) ?y257 ?z257
              case y257 => intro W hW; skip; replace hW := Lib.hid hW; go_simp; try rfl
              case z257 =>
              simp only [Act.put, List.setIfInBounds_toArray, List.set_cons_succ, List.set_cons_zero, List.getElem_toArray, List.getElem_cons_zero, List.getElem_cons_succ]
              refine hl_take ?v258 rfl (by kernel_rfl) ?y258 ?z258
              case y258 => intro W hW; skip; replace hW := Lib.hid hW; go_simp; try rfl
              case z258 =>
              simp only [Act.put, List.setIfInBounds_toArray, List.set_cons_succ, List.set_cons_zero, List.getElem_toArray, List.getElem_cons_zero, List.getElem_cons_succ]
              refine hl_take ?v259 rfl (by kernel_rfl) ?y259 ?z259
              case y259 => intro W hW; skip; replace hW := Lib.hid hW; go_simp; try rfl
              case z259 =>
              simp only [Act.put, List.setIfInBounds_toArray, List.set_cons_succ, List.set_cons_zero, List.getElem_toArray, List.getElem_cons_zero, List.getElem_cons_succ]
              refine hl_take ?v260 rfl (by kernel_rfl) ?y260 ?z260
              case y260 => intro W hW; change Sep W _ at hW; obtain ⟨_, x0, x1, x2, x3, x4, x5, x6, x7, x8, x9, _⟩ := b10 hW; obtain ⟨y0, y1, y2, y3, y4, y5, y6, y7, y8⟩ := het.out; replace y0 := (hW.to2.gold.cell (p := ⟨b, off + t * 9, none⟩) hbl).trans y0; replace y1 := (hW.to2.gold.cell (p := ⟨b, off + t * 9 + 1, none⟩) hbl).trans y1; replace y2 := (hW.to2.gold.cell (p := ⟨b, off + t * 9 + 2, none⟩) hbl).trans y2; replace y3 := (hW.to2.gold.cell (p := ⟨b, off + t * 9 + 3, none⟩) hbl).trans y3; replace y4 := (hW.to2.gold.cell (p := ⟨b, off + t * 9 + 4, none⟩) hbl).trans y4; replace y5 := (hW.to2.gold.cell (p := ⟨b, off + t * 9 + 5, none⟩) hbl).trans y5; replace y6 := (hW.to2.gold.cell (p := ⟨b, off + t * 9 + 6, none⟩) hbl).trans y6; replace y7 := (hW.to2.gold.cell (p := ⟨b, off + t * 9 + 7, none⟩) hbl).trans y7; replace y8 := (hW.to2.gold.cell (p := ⟨b, off + t * 9 + 8, none⟩) hbl).trans y8; replace hW := Lib.hid hW; go_simp; try rfl
              case z260 =>
              simp only [Act.put, List.setIfInBounds_toArray, List.set_cons_succ, List.set_cons_zero, List.getElem_toArray, List.getElem_cons_zero, List.getElem_cons_succ]
              refine hl_take ?v261 rfl (by kernel_rfl) ?y261 ?z261
              case y261 => intro W hW; skip; replace hW := Lib.hid hW; go_simp; try rfl
              case z261 =>
              simp only [Act.put, List.setIfInBounds_toArray, List.set_cons_succ, List.set_cons_zero, List.getElem_toArray, List.getElem_cons_zero, List.getElem_cons_succ]
              refine hl_take ?v262 rfl (by kernel_rfl) ?y262 ?z262
              case y262 => intro W hW; skip; replace hW := Lib.hid hW; go_simp; try rfl
              case z262 =>
              simp only [Act.put, List.setIfInBounds_toArray, List.set_cons_succ, List.set_cons_zero, List.getElem_toArray, List.getElem_cons_zero, List.getElem_cons_succ]
              refine hl_take ?v263 rfl (by kernel_rfl) ?y263 ?z263
              case y263 => intro W hW; skip; replace hW := Lib.hid hW; go_simp; try rfl
              case z263 =>
              simp only [Act.put, List.setIfInBounds_toArray, List.set_cons_succ, List.set_cons_zero, List.getElem_toArray, List.getElem_cons_zero, List.getElem_cons_succ]
              refine hl_take ?v264 rfl (by kernel_rfl) ?y264 ?z264
              case y264 => intro W hW; change Sep W _ at hW; obtain ⟨_, x0, x1, x2, x3, x4, x5, x6, x7, x8, x9, _⟩ := b10 hW; obtain ⟨y0, y1, y2, y3, y4, y5, y6, y7, y8⟩ := het.out; replace y0 := (hW.to2.gold.cell (p := ⟨b, off + t * 9, none⟩) hbl).trans y0; replace y1 := (hW.to2.gold.cell (p := ⟨b, off + t * 9 + 1, none⟩) hbl).trans y1; replace y2 := (hW.to2.gold.cell (p := ⟨b, off + t * 9 + 2, none⟩) hbl).trans y2; replace y3 := (hW.to2.gold.cell (p := ⟨b, off + t * 9 + 3, none⟩) hbl).trans y3; replace y4 := (hW.to2.gold.cell (p := ⟨b, off + t * 9 + 4, none⟩) hbl).trans y4; replace y5 := (hW.to2.gold.cell (p := ⟨b, off + t * 9 + 5, none⟩) hbl).trans y5; replace y6 := (hW.to2.gold.cell (p := ⟨b, off + t * 9 + 6, none⟩) hbl).trans y6; replace y7 := (hW.to2.gold.cell (p := ⟨b, off + t * 9 + 7, none⟩) hbl).trans y7; replace y8 := (hW.to2.gold.cell (p := ⟨b, off + t * 9 + 8, none⟩) hbl).trans y8; replace hW := Lib.hid hW; go_simp; try rfl
              case z264 =>
              simp only [Act.put, List.setIfInBounds_toArray, List.set_cons_succ, List.set_cons_zero, List.getElem_toArray, List.getElem_cons_zero, List.getElem_cons_succ]
              refine hl_take ?v265 rfl (by kernel_rfl) ?y265 ?z265
              case y265 => intro W hW; skip; replace hW := Lib.hid hW; go_simp; try rfl
              case z265 =>
              simp only [Act.put, List.setIfInBounds_toArray, List.set_cons_succ, List.set_cons_zero, List.getElem_toArray, List.getElem_cons_zero, List.getElem_cons_succ]
              refine hl_take ?v266 rfl (by kernel_rfl) ?y266 ?z266
              case y266 => intro W hW; skip; replace hW := Lib.hid hW; go_simp; try rfl
              case z266 =>
              simp only [Act.put, List.setIfInBounds_toArray, List.set_cons_succ, List.set_cons_zero, List.getElem_toArray, List.getElem_cons_zero, List.getElem_cons_succ]
              refine hl_take ?v267 rfl (by kernel_rfl) ?y267 ?z267
              case y267 => intro W hW; change Sep W _ at hW; obtain ⟨_, x0, x1, x2, x3, x4, x5, x6, x7, x8, x9, _⟩ := b10 hW; obtain ⟨y0, y1, y2, y3, y4, y5, y6, y7, y8⟩ := het.out; replace y0 := (hW.to2.gold.cell (p := ⟨b, off + t * 9, none⟩) hbl).trans y0; replace y1 := (hW.to2.gold.cell (p := ⟨b, off + t * 9 + 1, none⟩) hbl).trans y1; replace y2 := (hW.to2.gold.cell (p := ⟨b, off + t * 9 + 2, none⟩) hbl).trans y2; replace y3 := (hW.to2.gold.cell (p := ⟨b, off + t * 9 + 3, none⟩) hbl).trans y3; replace y4 := (hW.to2.gold.cell (p := ⟨b, off + t * 9 + 4, none⟩) hbl).trans y4; replace y5 := (hW.to2.gold.cell (p := ⟨b, off + t * 9 + 5, none⟩) hbl).trans y5; replace y6 := (hW.to2.gold.cell (p := ⟨b, off + t * 9 + 6, none⟩) hbl).trans y6; replace y7 := (hW.to2.gold.cell (p := ⟨b, off + t * 9 + 7, none⟩) hbl).trans y7; replace y8 := (hW.to2.gold.cell (p := ⟨b, off + t * 9 + 8, none⟩) hbl).trans y8; replace hW := Lib.hid hW; go_simp; try rfl
              case z267 =>
              simp only [Act.put, List.setIfInBounds_toArray, List.set_cons_succ, List.set_cons_zero, List.getElem_toArray, List.getElem_cons_zero, List.getElem_cons_succ]
              refine hl_take ?v268 rfl (by kernel_rfl) ?y268 ?z268
              case y268 => intro W hW; skip; replace hW := Lib.hid hW; go_simp; try rfl
              case z268 =>
              simp only [Act.put, List.setIfInBounds_toArray, List.set_cons_succ, List.set_cons_zero, List.getElem_toArray, List.getElem_cons_zero, List.getElem_cons_succ]
              refine hl_take ?v269 rfl (by kernel_rfl) ?y269 ?z269
              case y269 => intro W hW; skip; replace hW := Lib.hid hW; go_simp; try rfl
              case z269 =>
              simp only [Act.put, List.setIfInBounds_toArray, List.set_cons_succ, List.set_cons_zero, List.getElem_toArray, List.getElem_cons_zero, List.getElem_cons_succ]
              refine hl_done ?_
              clear hB
              replace hB := hS
              clear hS
              go_wp2_with fail
              go_loopw [11] (fun x wr => ∃ k : Nat, k ≤ i ∧ x = .int .i64 k ∧ Hid (Sep wr [blk xb 36 #[.int .i64 call, .int .i64 thread, .int .i64 (f : Int), .int .i64 (t : Int), .int .i64 kind, .int .i64 txn, .int .i64 t_, .int .i64 r_, .int .i64 mode, .int .i64 code], vec 36 10 (.slice (some ⟨g, 0, none⟩) n sc) n (scells S), old w])) (fun x _ => i - (intOf x).toNat)
              case atStart => exact ⟨0, Nat.zero_le _, rfl, hB⟩
              case round =>
                clear hB
                obtain ⟨k, hk, rfl, hB⟩ := hrel
                by_cases hki : k < i
                · have i3 : (0 : Int) ≤ (k : Int) := by omega
                  have i4 : (k : Int) < (n : Int) := by omega
                  have i5 : (k : Int) < (i : Int) := by omega
                  obtain ⟨u, hu⟩ : ∃ u, S[k]? = some u := ⟨S[k]'(by rw [hnS.out]; omega), List.getElem?_eq_getElem _⟩
                  have hap := hapart.out k u hki hu
                  have HBf := Lib.hid (fun W => before_any u ⟨call, thread, (f : Int), (t : Int), ⟨kind, txn, t_, r_, mode, code⟩⟩ W)
                  replace hu := Lib.hid hu
                  by_cases hth : u.thread = thread
                  · have hb := hap hth
                    rw [hb] at HBf
                    replace HBf := Lib.hid HBf.out
                    have hthb : (u.thread == thread) = true := by rw [hth]; simp
                    clear hap hb hth
                    go_wp2_with fail
                    have hS := Lib.hid (show (fun W : World => Sep W [blk xb 36 #[.int .i64 call, .int .i64 thread, .int .i64 (f : Int), .int .i64 (t : Int), .int .i64 kind, .int .i64 txn, .int .i64 t_, .int .i64 r_, .int .i64 mode, .int .i64 code], vec 36 10 (.slice (some ⟨g, 0, none⟩) n sc) n (scells S), old w]) _ from hB.out.drew)
                    refine hl_begin (fun W : World => Sep W [blk xb 36 #[.int .i64 call, .int .i64 thread, .int .i64 (f : Int), .int .i64 (t : Int), .int .i64 kind, .int .i64 txn, .int .i64 t_, .int .i64 r_, .int .i64 mode, .int .i64 code], vec 36 10 (.slice (some ⟨g, 0, none⟩) n sc) n (scells S), old w]) [(0, true), (1, true), (2, true), (3, true), (4, true), (5, true), (6, true), (7, true), (8, true), (9, true), (10, true), (11, true), (12, true), (13, true), (14, false), (15, true), (16, true)] (by kernel_rfl) (by kernel_rfl) (by kernel_rfl) rfl (fun _ _ _ _ _ h => h) hS.out ?_
                    change HL _ _ _ _ _ _ (World.drew _)
                    generalize World.drew _ = wd at *
                    refine hl_take ?v270 rfl (by kernel_rfl) ?y270 ?z270
                    case y270 => intro W hW; skip; replace hW := Lib.hid hW; go_simp; try rfl
                    case z270 =>
                    simp only [Act.put, List.setIfInBounds_toArray, List.set_cons_succ, List.set_cons_zero, List.getElem_toArray, List.getElem_cons_zero, List.getElem_cons_succ]
                    refine hl_take ?v271 rfl (by kernel_rfl) ?y271 ?z271
                    case y271 => intro W hW; skip; replace hW := Lib.hid hW; go_simp; try rfl
                    case z271 =>
                    simp only [Act.put, List.setIfInBounds_toArray, List.set_cons_succ, List.set_cons_zero, List.getElem_toArray, List.getElem_cons_zero, List.getElem_cons_succ]
                    refine hl_take ?v272 rfl (by kernel_rfl) ?y272 ?z272
                    case y272 => intro W hW; skip; replace hW := Lib.hid hW; go_simp; try rfl
                    case z272 =>
                    simp only [Act.put, List.setIfInBounds_toArray, List.set_cons_succ, List.set_cons_zero, List.getElem_toArray, List.getElem_cons_zero, List.getElem_cons_succ]
                    refine hl_take ?v273 rfl (by kernel_rfl) ?y273 ?z273
                    case y273 => intro W hW; skip; replace hW := Lib.hid hW; go_simp; try rfl
                    case z273 =>
                    simp only [Act.put, List.setIfInBounds_toArray, List.set_cons_succ, List.set_cons_zero, List.getElem_toArray, List.getElem_cons_zero, List.getElem_cons_succ]
                    refine hl_take ?v274 rfl (by kernel_rfl) ?y274 ?z274
                    case y274 => intro W hW; change Sep W _ at hW; obtain ⟨_, x0, x1, x2, x3, x4, x5, x6, x7, x8, x9, _⟩ := b10 hW; obtain ⟨y0, y1, y2, y3, y4, y5, y6, y7, y8, y9⟩ := sp10 hu.out; replace y0 := (hW.to1.vec_cell y0).1; replace y1 := (hW.to1.vec_cell y1).1; replace y2 := (hW.to1.vec_cell y2).1; replace y3 := (hW.to1.vec_cell y3).1; replace y4 := (hW.to1.vec_cell y4).1; replace y5 := (hW.to1.vec_cell y5).1; replace y6 := (hW.to1.vec_cell y6).1; replace y7 := (hW.to1.vec_cell y7).1; replace y8 := (hW.to1.vec_cell y8).1; replace y9 := (hW.to1.vec_cell y9).1; replace hW := Lib.hid hW; go_simp; try rfl
                    case z274 =>
                    simp only [Act.put, List.setIfInBounds_toArray, List.set_cons_succ, List.set_cons_zero, List.getElem_toArray, List.getElem_cons_zero, List.getElem_cons_succ]
                    refine hl_take ?v275 rfl (by kernel_rfl) ?y275 ?z275
                    case y275 => intro W hW; skip; replace hW := Lib.hid hW; go_simp; try rfl
                    case z275 =>
                    simp only [Act.put, List.setIfInBounds_toArray, List.set_cons_succ, List.set_cons_zero, List.getElem_toArray, List.getElem_cons_zero, List.getElem_cons_succ]
                    refine hl_take ?v276 rfl (by kernel_rfl) ?y276 ?z276
                    case y276 => intro W hW; change Sep W _ at hW; obtain ⟨_, x0, x1, x2, x3, x4, x5, x6, x7, x8, x9, _⟩ := b10 hW; obtain ⟨y0, y1, y2, y3, y4, y5, y6, y7, y8, y9⟩ := sp10 hu.out; replace y0 := (hW.to1.vec_cell y0).1; replace y1 := (hW.to1.vec_cell y1).1; replace y2 := (hW.to1.vec_cell y2).1; replace y3 := (hW.to1.vec_cell y3).1; replace y4 := (hW.to1.vec_cell y4).1; replace y5 := (hW.to1.vec_cell y5).1; replace y6 := (hW.to1.vec_cell y6).1; replace y7 := (hW.to1.vec_cell y7).1; replace y8 := (hW.to1.vec_cell y8).1; replace y9 := (hW.to1.vec_cell y9).1; replace hW := Lib.hid hW; go_simp; try rfl
                    case z276 =>
                    simp only [Act.put, List.setIfInBounds_toArray, List.set_cons_succ, List.set_cons_zero, List.getElem_toArray, List.getElem_cons_zero, List.getElem_cons_succ]
                    refine hl_take ?v277 rfl (by kernel_rfl) ?y277 ?z277
                    case y277 => intro W hW; skip; replace hW := Lib.hid hW; go_simp; try rfl
                    case z277 =>
                    simp only [Act.put, List.setIfInBounds_toArray, List.set_cons_succ, List.set_cons_zero, List.getElem_toArray, List.getElem_cons_zero, List.getElem_cons_succ]
                    refine hl_take ?v278 rfl (by kernel_rfl) ?y278 ?z278
                    case y278 => intro W hW; skip; replace hW := Lib.hid hW; go_simp; try rfl
                    case z278 =>
                    simp only [Act.put, List.setIfInBounds_toArray, List.set_cons_succ, List.set_cons_zero, List.getElem_toArray, List.getElem_cons_zero, List.getElem_cons_succ]
                    refine hl_take ?v279 rfl (by kernel_rfl) ?y279 ?z279
                    case y279 => intro W hW; skip; replace hW := Lib.hid hW; go_simp; try rfl
                    case z279 =>
                    simp only [Act.put, List.setIfInBounds_toArray, List.set_cons_succ, List.set_cons_zero, List.getElem_toArray, List.getElem_cons_zero, List.getElem_cons_succ]
                    refine hl_take ?v280 rfl (by kernel_rfl) ?y280 ?z280
                    case y280 => intro W hW; skip; replace hW := Lib.hid hW; go_simp; try rfl
                    case z280 =>
                    simp only [Act.put, List.setIfInBounds_toArray, List.set_cons_succ, List.set_cons_zero, List.getElem_toArray, List.getElem_cons_zero, List.getElem_cons_succ]
                    refine hl_take ?v281 rfl (by kernel_rfl) ?y281 ?z281
                    case y281 => intro W hW; skip; replace hW := Lib.hid hW; go_simp; try rfl
                    case z281 =>
                    simp only [Act.put, List.setIfInBounds_toArray, List.set_cons_succ, List.set_cons_zero, List.getElem_toArray, List.getElem_cons_zero, List.getElem_cons_succ]
                    refine hl_take ?v282 rfl (by kernel_rfl) ?y282 ?z282
                    case y282 => intro W hW; change Sep W _ at hW; obtain ⟨_, x0, x1, x2, x3, x4, x5, x6, x7, x8, x9, _⟩ := b10 hW; obtain ⟨y0, y1, y2, y3, y4, y5, y6, y7, y8, y9⟩ := sp10 hu.out; replace y0 := (hW.to1.vec_cell y0).1; replace y1 := (hW.to1.vec_cell y1).1; replace y2 := (hW.to1.vec_cell y2).1; replace y3 := (hW.to1.vec_cell y3).1; replace y4 := (hW.to1.vec_cell y4).1; replace y5 := (hW.to1.vec_cell y5).1; replace y6 := (hW.to1.vec_cell y6).1; replace y7 := (hW.to1.vec_cell y7).1; replace y8 := (hW.to1.vec_cell y8).1; replace y9 := (hW.to1.vec_cell y9).1; replace hW := Lib.hid hW; go_simp; try rfl
                    case z282 =>
                    simp only [Act.put, List.setIfInBounds_toArray, List.set_cons_succ, List.set_cons_zero, List.getElem_toArray, List.getElem_cons_zero, List.getElem_cons_succ]
                    refine hl_take ?v283 rfl (by kernel_rfl) ?y283 ?z283
                    case y283 => intro W hW; change Sep W _ at hW; obtain ⟨_, x0, x1, x2, x3, x4, x5, x6, x7, x8, x9, _⟩ := b10 hW; obtain ⟨y0, y1, y2, y3, y4, y5, y6, y7, y8, y9⟩ := sp10 hu.out; replace y0 := (hW.to1.vec_cell y0).1; replace y1 := (hW.to1.vec_cell y1).1; replace y2 := (hW.to1.vec_cell y2).1; replace y3 := (hW.to1.vec_cell y3).1; replace y4 := (hW.to1.vec_cell y4).1; replace y5 := (hW.to1.vec_cell y5).1; replace y6 := (hW.to1.vec_cell y6).1; replace y7 := (hW.to1.vec_cell y7).1; replace y8 := (hW.to1.vec_cell y8).1; replace y9 := (hW.to1.vec_cell y9).1; replace hW := Lib.hid hW; go_simp; try rfl
                    case z283 =>
                    simp only [Act.put, List.setIfInBounds_toArray, List.set_cons_succ, List.set_cons_zero, List.getElem_toArray, List.getElem_cons_zero, List.getElem_cons_succ]
                    refine hl_one rfl (by kernel_rfl) (fun K hK => ?_)
                    go_simp
                    refine (HBf.out _).mono ?_
                    rintro e w1 ⟨rfl, q1⟩
                    replace hS := Lib.hid (hS.out.below q1)
                    clear q1
                    refine hK.out _ _ hS.out ?_
                    clear hK K
                    try simp only [Act.put, List.setIfInBounds_toArray, List.set_cons_succ, List.set_cons_zero, List.getElem_toArray, List.getElem_cons_zero, List.getElem_cons_succ]
                    refine hl_take ?v284 rfl (by kernel_rfl) ?y284 ?z284
                    case y284 => intro W hW; skip; replace hW := Lib.hid hW; go_simp; try rfl
                    case z284 =>
                    simp only [Act.put, List.setIfInBounds_toArray, List.set_cons_succ, List.set_cons_zero, List.getElem_toArray, List.getElem_cons_zero, List.getElem_cons_succ]
                    refine hl_take ?v285 rfl (by kernel_rfl) ?y285 ?z285
                    case y285 => intro W hW; skip; replace hW := Lib.hid hW; go_simp; try rfl
                    case z285 =>
                    simp only [Act.put, List.setIfInBounds_toArray, List.set_cons_succ, List.set_cons_zero, List.getElem_toArray, List.getElem_cons_zero, List.getElem_cons_succ]
                    refine hl_done ?_
                    clear hB
                    replace hB := hS
                    clear hS
                    go_wp2_with fail
                    go_roundw
                    case rel => exact ⟨k + 1, by omega, by go_num, hB⟩
                    case measure => simp [intOf]; omega
                  · have hthb : (u.thread == thread) = false := beq_eq_false_iff_ne.2 hth
                    clear hap hth HBf
                    go_wp2_with fail
                    have hS := Lib.hid (show (fun W : World => Sep W [blk xb 36 #[.int .i64 call, .int .i64 thread, .int .i64 (f : Int), .int .i64 (t : Int), .int .i64 kind, .int .i64 txn, .int .i64 t_, .int .i64 r_, .int .i64 mode, .int .i64 code], vec 36 10 (.slice (some ⟨g, 0, none⟩) n sc) n (scells S), old w]) _ from hB.out.drew)
                    refine hl_begin (fun W : World => Sep W [blk xb 36 #[.int .i64 call, .int .i64 thread, .int .i64 (f : Int), .int .i64 (t : Int), .int .i64 kind, .int .i64 txn, .int .i64 t_, .int .i64 r_, .int .i64 mode, .int .i64 code], vec 36 10 (.slice (some ⟨g, 0, none⟩) n sc) n (scells S), old w]) [(0, true), (1, true), (2, true), (3, true), (4, true), (5, true), (6, true), (7, true), (8, true), (9, true), (10, true), (11, true), (12, true), (13, true), (14, false), (15, true), (16, true)] (by kernel_rfl) (by kernel_rfl) (by kernel_rfl) rfl (fun _ _ _ _ _ h => h) hS.out ?_
                    change HL _ _ _ _ _ _ (World.drew _)
                    generalize World.drew _ = wd at *
                    refine hl_take ?v286 rfl (by kernel_rfl) ?y286 ?z286
                    case y286 => intro W hW; skip; replace hW := Lib.hid hW; go_simp; try rfl
                    case z286 =>
                    simp only [Act.put, List.setIfInBounds_toArray, List.set_cons_succ, List.set_cons_zero, List.getElem_toArray, List.getElem_cons_zero, List.getElem_cons_succ]
                    refine hl_take ?v287 rfl (by kernel_rfl) ?y287 ?z287
                    case y287 => intro W hW; skip; replace hW := Lib.hid hW; go_simp; try rfl
                    case z287 =>
                    simp only [Act.put, List.setIfInBounds_toArray, List.set_cons_succ, List.set_cons_zero, List.getElem_toArray, List.getElem_cons_zero, List.getElem_cons_succ]
                    refine hl_take ?v288 rfl (by kernel_rfl) ?y288 ?z288
                    case y288 => intro W hW; skip; replace hW := Lib.hid hW; go_simp; try rfl
                    case z288 =>
                    simp only [Act.put, List.setIfInBounds_toArray, List.set_cons_succ, List.set_cons_zero, List.getElem_toArray, List.getElem_cons_zero, List.getElem_cons_succ]
                    refine hl_take ?v289 rfl (by kernel_rfl) ?y289 ?z289
                    case y289 => intro W hW; skip; replace hW := Lib.hid hW; go_simp; try rfl
                    case z289 =>
                    simp only [Act.put, List.setIfInBounds_toArray, List.set_cons_succ, List.set_cons_zero, List.getElem_toArray, List.getElem_cons_zero, List.getElem_cons_succ]
                    refine hl_take ?v290 rfl (by kernel_rfl) ?y290 ?z290
                    case y290 => intro W hW; change Sep W _ at hW; obtain ⟨_, x0, x1, x2, x3, x4, x5, x6, x7, x8, x9, _⟩ := b10 hW; obtain ⟨y0, y1, y2, y3, y4, y5, y6, y7, y8, y9⟩ := sp10 hu.out; replace y0 := (hW.to1.vec_cell y0).1; replace y1 := (hW.to1.vec_cell y1).1; replace y2 := (hW.to1.vec_cell y2).1; replace y3 := (hW.to1.vec_cell y3).1; replace y4 := (hW.to1.vec_cell y4).1; replace y5 := (hW.to1.vec_cell y5).1; replace y6 := (hW.to1.vec_cell y6).1; replace y7 := (hW.to1.vec_cell y7).1; replace y8 := (hW.to1.vec_cell y8).1; replace y9 := (hW.to1.vec_cell y9).1; replace hW := Lib.hid hW; go_simp; try rfl
                    case z290 =>
                    simp only [Act.put, List.setIfInBounds_toArray, List.set_cons_succ, List.set_cons_zero, List.getElem_toArray, List.getElem_cons_zero, List.getElem_cons_succ]
                    refine hl_take ?v291 rfl (by kernel_rfl) ?y291 ?z291
                    case y291 => intro W hW; skip; replace hW := Lib.hid hW; go_simp; try rfl
                    case z291 =>
                    simp only [Act.put, List.setIfInBounds_toArray, List.set_cons_succ, List.set_cons_zero, List.getElem_toArray, List.getElem_cons_zero, List.getElem_cons_succ]
                    refine hl_take ?v292 rfl (by kernel_rfl) ?y292 ?z292
                    case y292 => intro W hW; change Sep W _ at hW; obtain ⟨_, x0, x1, x2, x3, x4, x5, x6, x7, x8, x9, _⟩ := b10 hW; obtain ⟨y0, y1, y2, y3, y4, y5, y6, y7, y8, y9⟩ := sp10 hu.out; replace y0 := (hW.to1.vec_cell y0).1; replace y1 := (hW.to1.vec_cell y1).1; replace y2 := (hW.to1.vec_cell y2).1; replace y3 := (hW.to1.vec_cell y3).1; replace y4 := (hW.to1.vec_cell y4).1; replace y5 := (hW.to1.vec_cell y5).1; replace y6 := (hW.to1.vec_cell y6).1; replace y7 := (hW.to1.vec_cell y7).1; replace y8 := (hW.to1.vec_cell y8).1; replace y9 := (hW.to1.vec_cell y9).1; replace hW := Lib.hid hW; go_simp; try rfl
                    case z292 =>
                    simp only [Act.put, List.setIfInBounds_toArray, List.set_cons_succ, List.set_cons_zero, List.getElem_toArray, List.getElem_cons_zero, List.getElem_cons_succ]
                    refine hl_take ?v293 rfl (by kernel_rfl) ?y293 ?z293
                    case y293 => intro W hW; skip; replace hW := Lib.hid hW; go_simp; try rfl
                    case z293 =>
                    simp only [Act.put, List.setIfInBounds_toArray, List.set_cons_succ, List.set_cons_zero, List.getElem_toArray, List.getElem_cons_zero, List.getElem_cons_succ]
                    refine hl_take ?v294 rfl (by kernel_rfl) ?y294 ?z294
                    case y294 => intro W hW; skip; replace hW := Lib.hid hW; go_simp; try rfl
                    case z294 =>
                    simp only [Act.put, List.setIfInBounds_toArray, List.set_cons_succ, List.set_cons_zero, List.getElem_toArray, List.getElem_cons_zero, List.getElem_cons_succ]
                    refine hl_skip rfl (by kernel_rfl) ?_
                    simp only [Act.put, List.setIfInBounds_toArray, List.set_cons_succ, List.set_cons_zero, List.getElem_toArray, List.getElem_cons_zero, List.getElem_cons_succ]
                    refine hl_skip rfl (by kernel_rfl) ?_
                    simp only [Act.put, List.setIfInBounds_toArray, List.set_cons_succ, List.set_cons_zero, List.getElem_toArray, List.getElem_cons_zero, List.getElem_cons_succ]
                    refine hl_skip rfl (by kernel_rfl) ?_
                    simp only [Act.put, List.setIfInBounds_toArray, List.set_cons_succ, List.set_cons_zero, List.getElem_toArray, List.getElem_cons_zero, List.getElem_cons_succ]
                    refine hl_skip rfl (by kernel_rfl) ?_
                    simp only [Act.put, List.setIfInBounds_toArray, List.set_cons_succ, List.set_cons_zero, List.getElem_toArray, List.getElem_cons_zero, List.getElem_cons_succ]
                    refine hl_skip rfl (by kernel_rfl) ?_
                    simp only [Act.put, List.setIfInBounds_toArray, List.set_cons_succ, List.set_cons_zero, List.getElem_toArray, List.getElem_cons_zero, List.getElem_cons_succ]
                    refine hl_skip1 rfl (by kernel_rfl) ?_
                    simp only [Act.put, List.setIfInBounds_toArray, List.set_cons_succ, List.set_cons_zero, List.getElem_toArray, List.getElem_cons_zero, List.getElem_cons_succ]
                    refine hl_skip rfl (by kernel_rfl) ?_
                    simp only [Act.put, List.setIfInBounds_toArray, List.set_cons_succ, List.set_cons_zero, List.getElem_toArray, List.getElem_cons_zero, List.getElem_cons_succ]
                    refine hl_take ?v295 rfl (by kernel_rfl) ?y295 ?z295
                    case y295 => intro W hW; skip; replace hW := Lib.hid hW; go_simp; try rfl
                    case z295 =>
                    simp only [Act.put, List.setIfInBounds_toArray, List.set_cons_succ, List.set_cons_zero, List.getElem_toArray, List.getElem_cons_zero, List.getElem_cons_succ]
                    refine hl_done ?_
                    clear hB
                    replace hB := hS
                    clear hS
                    go_wp2_with fail
                    go_roundw
                    case rel => exact ⟨k + 1, by omega, by go_num, hB⟩
                    case measure => simp [intOf]; omega
                · have i5 : ¬ (k : Int) < (i : Int) := by omega
                  go_wp2_with fail
                  go_roundw
                  case rel => exact ⟨i + 1, m + 1, by omega, by go_num, by go_num, hcl2, by omega, Lib.hid hB.out.tail⟩
                  case measure => simp [intOf]; omega
        · have hcS : closedN S = m := by rw [← hcl.out, List.take_of_length_le (by rw [hnS.out]; omega)]
          obtain ⟨f1, f2, f3⟩ := hfacts.out
          rw [hcS] at f1 f2 f3
          have hmn : m ≤ 60 := by omega
          obtain ⟨pl, hpl⟩ : ∃ pl, (pendC S).length = pl := ⟨_, rfl⟩
          obtain ⟨cl, hclen⟩ : ∃ cl, c.length = cl := ⟨_, rfl⟩
          rw [hpl] at f2
          rw [hclen] at f3
          simp only [hpl] at HP
          simp only [hclen] at HM HCc HPc
          replace HP := Lib.hid HP.out
          replace HM := Lib.hid HM.out
          replace HCc := Lib.hid HCc.out
          replace HPc := Lib.hid HPc.out
          clear hcS hpl hclen
          have g1 := Lib.hid (show (len : Int) = (n : Int) + (m : Int) by omega)
          have g2 := Lib.hid (show (pl : Int) = (n : Int) - (m : Int) by omega)
          have g3 := Lib.hid (show (cl : Int) = 2 * (m : Int) by omega)
          have hb4 := Lib.hid hV.out.tail.gold
          have hmn2 : m ≤ n := by omega
          have hni : ¬ (i : Int) < (n : Int) := by omega
          clear f1 f2 f3 hlt
          go_wp2_with fail
          refine (HM.out _ hb4.out).mono ?_
          rintro e w4 ⟨ca, cc, rfl, q⟩
          have hT := Lib.hid (q.graft hV.out)
          clear q HM hV hb4
          go_wp2_with fail
          refine (HCc.out _ _ hT.out.vec_rl).mono ?_
          rintro e w5 ⟨rfl, q⟩
          replace hT := Lib.hid (hT.out.below q)
          clear q HCc
          have g1' := g1.out
          go_wp2_with fail
          refine (HP.out _ hT.out.tail.tail.gold).mono ?_
          rintro e w6 ⟨pa, pc, rfl, q⟩
          replace hT := Lib.hid (q.graft hT.out)
          clear q HP
          have g2' := g2.out
          go_wp2_with fail
          refine (HPc.out _ _ hT.out.to1.vec_rl).mono ?_
          rintro e w7 ⟨pa2, pc2, rfl, q⟩
          replace hT := Lib.hid (q.graft hT.out)
          clear q HPc
          have g3' := g3.out
          go_wp2_with fail
          go_ret
          exact ⟨rfl, hT.out.tail.tail.tail.tail.gold⟩
    · obtain ⟨q, hq, hqa, hpre⟩ := walk_err l 0 [] hR2
      rw [Nat.zero_add] at hqa
      rw [hqa] at HC
      obtain ⟨er, her⟩ : ∃ er, (walkS l 0 []).2.2 = er := ⟨_, rfl⟩
      obtain ⟨S, hS0⟩ : ∃ S, (walkS l 0 []).1 = S := ⟨_, rfl⟩
      have hSl := walkS_len l 0 []
      rw [her] at HC hR2
      simp only [hS0] at HS hpre
      rw [hS0] at hSl
      have hS1 : S.length ≤ 1000 := by simp at hSl; omega
      have hqn : q < len := by omega
      have htl : (l.take q).length ≤ 1000 := by rw [List.length_take]; omega
      have hvq := Lib.hid (rl_takeE hv hn (by omega : q ≤ len))
      have HCq := Lib.hid (fun W hb => check_any (.slice a q cap) (l.take q) W (hvq.out.below hb) htl)
      have HSq := Lib.hid (fun W hb => spans_any (.slice a q cap) (l.take q) W (hvq.out.below hb) htl)
      rw [hpre] at HCq
      simp only [hpre] at HSq
      replace HCq := Lib.hid HCq.out
      replace HSq := Lib.hid HSq.out
      replace HC := Lib.hid HC.out
      replace HS := Lib.hid HS.out
      have e1 : (er == 0) = false := beq_eq_false_iff_ne.2 hR2
      have e2 : (er != 0) = true := by rw [bne, e1]; rfl
      have hcap : len ≤ cap := by obtain ⟨_, a', c', h1, h2, _⟩ := hv; injection h1 with _ _ h3; omega
      have j1 : (0 : Int) ≤ (q : Int) := by omega
      have j2 : (q : Int) < (len : Int) := by omega
      have j3 : (q : Int) ≤ (cap : Int) := by omega
      have j4 : decide (len ≤ q) = false := decide_eq_false (by omega)
      replace hR2 := Lib.hid hR2
      clear her hS0 hSl hpre hqa hvq hv hvn htl hq h60
      replace hn := Lib.hid hn
      go_enter Try.func4, Try.ntmps4
      go_wp2_with fail
      refine (lives_any _).mono ?_
      rintro e w1 ⟨rfl, z⟩
      have hb1 := Lib.hid z
      clear z
      go_wp2_with fail
      refine (HC.out _ hb1.out).mono ?_
      rintro e w2 ⟨rfl, z⟩
      replace hb1 := Lib.hid (belT hb1.out z)
      have hA := Lib.hid ((Sep.start w).below hb1.out)
      clear z HC
      go_wp2_with fail
      refine (HS.out _ hb1.out).mono ?_
      rintro e w3 ⟨sa, sc, rfl, z⟩
      have hV := Lib.hid (z.graft hA.out)
      clear z HS hb1 hA
      go_wp2_with fail
      refine (HCq.out _ hV.out.tail.gold).mono ?_
      rintro e w4 ⟨rfl, z⟩
      replace hV := Lib.hid (hV.out.below z)
      clear z HCq
      go_wp2_with fail
      refine (HSq.out _ hV.out.tail.gold).mono ?_
      rintro e w5 ⟨sa2, sc2, rfl, z⟩
      replace hV := Lib.hid (z.graft hV.out)
      clear z HSq
      go_wp2_with fail
      refine (same_sp _ _ S _ hV.out.vec_rl hV.out.to1.vec_rl hS1).mono ?_
      rintro e w6 ⟨rfl, mm, rfl⟩
      replace hV := Lib.hid (hV.out.drewN mm)
      go_wp2_with fail
      go_ret
      exact ⟨rfl, hV.out.tail.tail.gold⟩
  · have i60 : (len : Int) > 60 := by omega
    go_enter Try.func4, Try.ntmps4
    go_wp2_with fail
    refine (lives_any _).mono ?_
    rintro e w1 ⟨rfl, q⟩
    replace q := Lib.hid q
    go_wp2_with fail
    go_ret
    exact ⟨rfl, q.out⟩
end Go.Proofs.Ytechagciefhpbaa
