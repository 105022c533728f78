/-
  The contract of Read. Condition: RdW (the variables that its callees look at).
-/
import Derived.Test.YtiaibmabmholaaaDoorNmRead
namespace Go.Proofs.YtiaibmabmholaaaDoor
open Go.RowKit
/-- What Read answers of a text. -/
def ReadV (s : ByteArray) (t r c : Int) : Prop :=
  (lv (rdN s).1 (rdN s).2 ≠ -1 ∧ txt (rdN s).1 (rdN s).2 = s ∧ t = (rdN s).1 ∧ r = (rdN s).2 ∧ c = 0) ∨ ((lv (rdN s).1 (rdN s).2 = -1 ∨ txt (rdN s).1 (rdN s).2 ≠ s) ∧ t = 0 ∧ r = 0 ∧ c = 3)
theorem restB_size (s : ByteArray) : (restB s).size ≤ s.size := by
  unfold restB
  split
  · simp
  · exact Nat.le_refl _
theorem cut_size (l p : List UInt8) : (Go.Lib.cut l p).1.length ≤ l.length ∧ (Go.Lib.cut l p).2.1.length ≤ l.length := by
  unfold Go.Lib.cut
  split <;> simp <;> try omega
theorem ne_lists {a b : ByteArray} (h : ¬ a = b) : (a.toList == b.toList) = false := by
  rw [beq_eq_false_iff_ne, Go.ByteArray.toList_eq, Go.ByteArray.toList_eq]
  intro e
  apply h
  cases a; cases b
  exact congrArg ByteArray.mk (Array.toList_inj.1 e)
theorem level_r (t r n : Int) (w : World) (h : lv t r = n) : Calls Tryd.prog 15 #[(.agg #[.int .i64 t, .int .i64 r])] w fun e w' => e = .returned (.int .i64 n) ∧ Below w.heap.size w w' := by
  subst h
  exact level_any t r w
theorem text_r (t r : Int) (s : ByteArray) (w : World) (h : txt t r = s) : Calls Tryd.prog 21 #[(.agg #[.int .i64 t, .int .i64 r])] w fun e w' => e = .returned (.string s) ∧ Below w.heap.size w w' := by
  subst h
  exact text_any t r w
set_option maxHeartbeats 4000000 in
set_option maxRecDepth 100000 in
theorem read_any (s : ByteArray) (hs : s.size ≤ 1000) (w : World) (h : RdW w) (h9 : 9 < w.heap.size) : Calls Tryd.prog 20 #[.string s] w fun e w' => ∃ t r c, e = .returned (.tuple #[(.agg #[.int .i64 t, .int .i64 r]), .int .i64 c]) ∧ ReadV s t r c ∧ Below w.heap.size w w' := by
  have hR := Lib.hid h
  have hS0 := Lib.hid ((Sep.start w).alloc #[Value.int .i64 (0), Value.int .i64 (0)] 23)
  have HP := Lib.hid (fun W => cutPrefix_any s hs W)
  have hr := restB_size s
  have hcs := cut_size (restB s).data.toList [46, 114]
  have hlen : (restB s).data.toList.length = (restB s).size := by simp
  rw [hlen] at hcs
  clear hlen h
  cases hp : Go.Lib.hasPrefix s.data.toList [116] with
  | false =>
    have hV := Lib.hid (show rdN s = (-1, -1) by unfold rdN; rw [hp]; rfl)
    rw [hp] at HP
    clear hp hcs
    go_enter Tryd.func20, Tryd.ntmps20
    go_wp2_with fail
    refine (database_any _).mono ?_
    rintro e w1 ⟨rfl, b1⟩
    have hS := Lib.hid ((hS0.out.below b1).alloc #[Value.int .i64 (-1), Value.int .i64 (-1)] 23)
    clear b1 hS0
    obtain ⟨_, n0, n1, _⟩ := hS.out.b2
    obtain ⟨_, m0, m1, _⟩ := hS.out.to1.b2
    go_wp2_with fail
    refine (HP.out _).mono ?_
    rintro e w2 ⟨rfl, rfl⟩
    by_cases hl : lv (-1) (-1) = -1
    · have HL := Lib.hid (fun W => level_r (-1) (-1) (-1) W hl)
      have fin : ReadV s 0 0 3 := .inr ⟨.inl (by rw [hV.out]; exact hl), rfl, rfl, rfl⟩
      replace fin := Lib.hid fin
      clear hl
      go_wp2_with fail
      refine (HL.out _).mono ?_
      rintro e w6 ⟨rfl, b6⟩
      replace hS := Lib.hid (hS.out.below b6)
      clear b6 n0 n1 m0 m1
      obtain ⟨_, n0, n1, _⟩ := hS.out.b2
      obtain ⟨_, m0, m1, m2, m3⟩ := hS.out.to1.b2
      go_wp2_with fail
      refine bodyPost_ret (v := .tuple #[(.agg #[.int .i64 0, .int .i64 0]), .int .i64 3]) (by simp [results, Tryd.results20, go_sem, *]) rfl ⟨_, _, _, rfl, fin.out, ?_⟩
      exact ((hS.out.to1.set 0 _).set 1 _).tail.tail.gold
    · obtain ⟨lx, hlx⟩ : ∃ x, Hid (lv (-1) (-1) = x) := ⟨_, rfl⟩
      have HL := Lib.hid (fun W => level_r (-1) (-1) lx W hlx.out)
      have ex : (lx == -1) = false := by rw [beq_eq_false_iff_ne, ← hlx.out]; exact hl
      by_cases ht : txt (-1) (-1) = s
      · have HT := Lib.hid (fun W => text_r (-1) (-1) s W ht)
        have fin : ReadV s (-1) (-1) 0 := .inl ⟨by rw [hV.out]; exact hl, by rw [hV.out]; exact ht, by rw [hV.out], by rw [hV.out], rfl⟩
        replace fin := Lib.hid fin
        clear hl ht hlx
        go_wp2_with fail
        refine (HL.out _).mono ?_
        rintro e w6 ⟨rfl, b6⟩
        replace hS := Lib.hid (hS.out.below b6)
        clear b6 n0 n1 m0 m1
        obtain ⟨_, n0, n1, _⟩ := hS.out.b2
        obtain ⟨_, m0, m1, m2, m3⟩ := hS.out.to1.b2
        go_wp2_with fail
        refine (HT.out _).mono ?_
        rintro e w7 ⟨rfl, b7⟩
        replace hS := Lib.hid (hS.out.below b7)
        clear b7 n0 n1 m0 m1 m2 m3
        obtain ⟨_, n0, n1, _⟩ := hS.out.b2
        obtain ⟨_, m0, m1, m2, m3⟩ := hS.out.to1.b2
        go_wp2_with fail
        refine bodyPost_ret (v := .tuple #[(.agg #[.int .i64 (-1), .int .i64 (-1)]), .int .i64 0]) (by simp [results, Tryd.results20, go_sem, *]) rfl ⟨_, _, _, rfl, fin.out, ?_⟩
        exact ((hS.out.to1.set 0 _).set 1 _).tail.tail.gold
      · obtain ⟨tx, htx⟩ : ∃ x, Hid (txt (-1) (-1) = x) := ⟨_, rfl⟩
        have HT := Lib.hid (fun W => text_r (-1) (-1) tx W htx.out)
        have e1 : ¬ tx = s := by rw [← htx.out]; exact ht
        have e2 : (tx.toList == s.toList) = false := ne_lists e1
        have fin : ReadV s 0 0 3 := .inr ⟨.inr (by rw [hV.out]; exact ht), rfl, rfl, rfl⟩
        replace fin := Lib.hid fin
        clear hl ht hlx htx
        go_wp2_with fail
        refine (HL.out _).mono ?_
        rintro e w6 ⟨rfl, b6⟩
        replace hS := Lib.hid (hS.out.below b6)
        clear b6 n0 n1 m0 m1
        obtain ⟨_, n0, n1, _⟩ := hS.out.b2
        obtain ⟨_, m0, m1, m2, m3⟩ := hS.out.to1.b2
        go_wp2_with fail
        refine (HT.out _).mono ?_
        rintro e w7 ⟨rfl, b7⟩
        replace hS := Lib.hid (hS.out.below b7)
        clear b7 n0 n1 m0 m1 m2 m3
        obtain ⟨_, n0, n1, _⟩ := hS.out.b2
        obtain ⟨_, m0, m1, m2, m3⟩ := hS.out.to1.b2
        go_wp2_with fail
        refine bodyPost_ret (v := .tuple #[(.agg #[.int .i64 0, .int .i64 0]), .int .i64 3]) (by simp [results, Tryd.results20, go_sem, *]) rfl ⟨_, _, _, rfl, fin.out, ?_⟩
        exact ((hS.out.to1.set 0 _).set 1 _).tail.tail.gold
  | true =>
    have hq : ((Go.Lib.cut (restB s).data.toList [46, 114]).1.toArray).size ≤ 1000 := by simp; omega
    have hq2 : ((Go.Lib.cut (restB s).data.toList [46, 114]).2.1.toArray).size ≤ 1000 := by simp; omega
    have HC := Lib.hid (fun W hW => cutR_any (restB s) (by omega) W hW)
    have HA := Lib.hid (fun W hW => atoi_any ⟨(Go.Lib.cut (restB s).data.toList [46, 114]).1.toArray⟩ hq W hW)
    have HB := Lib.hid (fun W hW => atoi_any ⟨(Go.Lib.cut (restB s).data.toList [46, 114]).2.1.toArray⟩ hq2 W hW)
    have hV0 := Lib.hid (show rdN s = (atoiN (Go.Lib.cut (restB s).data.toList [46, 114]).1, if (Go.Lib.cut (restB s).data.toList [46, 114]).2.2 then atoiN (Go.Lib.cut (restB s).data.toList [46, 114]).2.1 else -1) by unfold rdN; rw [hp]; rfl)
    rw [hp] at HP
    clear hp hcs hq hq2
    simp only [List.toList_toArray] at HA HB
    generalize (Go.Lib.cut (restB s).data.toList [46, 114]).1.toArray = y1 at *
    generalize atoiN (Go.Lib.cut (restB s).data.toList [46, 114]).1 = v1 at *
    generalize (Go.Lib.cut (restB s).data.toList [46, 114]).2.1.toArray = y2 at *
    generalize atoiN (Go.Lib.cut (restB s).data.toList [46, 114]).2.1 = v2 at *
    cases hd : (Go.Lib.cut (restB s).data.toList [46, 114]).2.2 with
    | false =>
      rw [hd] at HC hV0
      have hV := Lib.hid (show rdN s = (v1, -1) from hV0.out)
      clear hV0 hd HB
      go_enter Tryd.func20, Tryd.ntmps20
      go_wp2_with fail
      refine (database_any _).mono ?_
      rintro e w1 ⟨rfl, b1⟩
      have hS := Lib.hid ((hS0.out.below b1).alloc #[Value.int .i64 (-1), Value.int .i64 (-1)] 23)
      clear b1 hS0
      go_wp2_with fail
      refine (HP.out _).mono ?_
      rintro e w2 ⟨rfl, rfl⟩
      go_wp2_with fail
      refine (HC.out _ (hR.out.later hS.out.tail.tail.gold h9)).mono ?_
      rintro e w3 ⟨rfl, b3⟩
      replace hS := Lib.hid (hS.out.below b3)
      clear b3
      go_wp2_with fail
      refine (HA.out _ (hR.out.later hS.out.tail.tail.gold h9)).mono ?_
      rintro e w4 ⟨er, rfl, b4⟩
      replace hS := Lib.hid (hS.out.below b4)
      clear b4
      obtain ⟨_, n0, n1, n2, n3⟩ := hS.out.b2
      go_wp2_with fail
      replace hS := Lib.hid (hS.out.set 0 (.int .i64 v1))
      simp only [List.setIfInBounds_toArray, List.set_cons_zero] at hS
      clear n0 n1 n2 n3 HA HC HP
      obtain ⟨_, n0, n1, _⟩ := hS.out.b2
      obtain ⟨_, m0, m1, _⟩ := hS.out.to1.b2
      by_cases hl : lv v1 (-1) = -1
      · have HL := Lib.hid (fun W => level_r v1 (-1) (-1) W hl)
        have fin : ReadV s 0 0 3 := .inr ⟨.inl (by rw [hV.out]; exact hl), rfl, rfl, rfl⟩
        replace fin := Lib.hid fin
        clear hl
        go_wp2_with fail
        refine (HL.out _).mono ?_
        rintro e w6 ⟨rfl, b6⟩
        replace hS := Lib.hid (hS.out.below b6)
        clear b6 n0 n1 m0 m1
        obtain ⟨_, n0, n1, _⟩ := hS.out.b2
        obtain ⟨_, m0, m1, m2, m3⟩ := hS.out.to1.b2
        go_wp2_with fail
        refine bodyPost_ret (v := .tuple #[(.agg #[.int .i64 0, .int .i64 0]), .int .i64 3]) (by simp [results, Tryd.results20, go_sem, *]) rfl ⟨_, _, _, rfl, fin.out, ?_⟩
        exact ((hS.out.to1.set 0 _).set 1 _).tail.tail.gold
      · obtain ⟨lx, hlx⟩ : ∃ x, Hid (lv v1 (-1) = x) := ⟨_, rfl⟩
        have HL := Lib.hid (fun W => level_r v1 (-1) lx W hlx.out)
        have ex : (lx == -1) = false := by rw [beq_eq_false_iff_ne, ← hlx.out]; exact hl
        by_cases ht : txt v1 (-1) = s
        · have HT := Lib.hid (fun W => text_r v1 (-1) s W ht)
          have fin : ReadV s v1 (-1) 0 := .inl ⟨by rw [hV.out]; exact hl, by rw [hV.out]; exact ht, by rw [hV.out], by rw [hV.out], rfl⟩
          replace fin := Lib.hid fin
          clear hl ht hlx
          go_wp2_with fail
          refine (HL.out _).mono ?_
          rintro e w6 ⟨rfl, b6⟩
          replace hS := Lib.hid (hS.out.below b6)
          clear b6 n0 n1 m0 m1
          obtain ⟨_, n0, n1, _⟩ := hS.out.b2
          obtain ⟨_, m0, m1, m2, m3⟩ := hS.out.to1.b2
          go_wp2_with fail
          refine (HT.out _).mono ?_
          rintro e w7 ⟨rfl, b7⟩
          replace hS := Lib.hid (hS.out.below b7)
          clear b7 n0 n1 m0 m1 m2 m3
          obtain ⟨_, n0, n1, _⟩ := hS.out.b2
          obtain ⟨_, m0, m1, m2, m3⟩ := hS.out.to1.b2
          go_wp2_with fail
          refine bodyPost_ret (v := .tuple #[(.agg #[.int .i64 v1, .int .i64 (-1)]), .int .i64 0]) (by simp [results, Tryd.results20, go_sem, *]) rfl ⟨_, _, _, rfl, fin.out, ?_⟩
          exact ((hS.out.to1.set 0 _).set 1 _).tail.tail.gold
        · obtain ⟨tx, htx⟩ : ∃ x, Hid (txt v1 (-1) = x) := ⟨_, rfl⟩
          have HT := Lib.hid (fun W => text_r v1 (-1) tx W htx.out)
          have e1 : ¬ tx = s := by rw [← htx.out]; exact ht
          have e2 : (tx.toList == s.toList) = false := ne_lists e1
          have fin : ReadV s 0 0 3 := .inr ⟨.inr (by rw [hV.out]; exact ht), rfl, rfl, rfl⟩
          replace fin := Lib.hid fin
          clear hl ht hlx htx
          go_wp2_with fail
          refine (HL.out _).mono ?_
          rintro e w6 ⟨rfl, b6⟩
          replace hS := Lib.hid (hS.out.below b6)
          clear b6 n0 n1 m0 m1
          obtain ⟨_, n0, n1, _⟩ := hS.out.b2
          obtain ⟨_, m0, m1, m2, m3⟩ := hS.out.to1.b2
          go_wp2_with fail
          refine (HT.out _).mono ?_
          rintro e w7 ⟨rfl, b7⟩
          replace hS := Lib.hid (hS.out.below b7)
          clear b7 n0 n1 m0 m1 m2 m3
          obtain ⟨_, n0, n1, _⟩ := hS.out.b2
          obtain ⟨_, m0, m1, m2, m3⟩ := hS.out.to1.b2
          go_wp2_with fail
          refine bodyPost_ret (v := .tuple #[(.agg #[.int .i64 0, .int .i64 0]), .int .i64 3]) (by simp [results, Tryd.results20, go_sem, *]) rfl ⟨_, _, _, rfl, fin.out, ?_⟩
          exact ((hS.out.to1.set 0 _).set 1 _).tail.tail.gold
    | true =>
      rw [hd] at HC hV0
      have hV := Lib.hid (show rdN s = (v1, v2) from hV0.out)
      clear hV0 hd
      go_enter Tryd.func20, Tryd.ntmps20
      go_wp2_with fail
      refine (database_any _).mono ?_
      rintro e w1 ⟨rfl, b1⟩
      have hS := Lib.hid ((hS0.out.below b1).alloc #[Value.int .i64 (-1), Value.int .i64 (-1)] 23)
      clear b1 hS0
      go_wp2_with fail
      refine (HP.out _).mono ?_
      rintro e w2 ⟨rfl, rfl⟩
      go_wp2_with fail
      refine (HC.out _ (hR.out.later hS.out.tail.tail.gold h9)).mono ?_
      rintro e w3 ⟨rfl, b3⟩
      replace hS := Lib.hid (hS.out.below b3)
      clear b3
      go_wp2_with fail
      refine (HA.out _ (hR.out.later hS.out.tail.tail.gold h9)).mono ?_
      rintro e w4 ⟨er, rfl, b4⟩
      replace hS := Lib.hid (hS.out.below b4)
      clear b4
      obtain ⟨_, n0, n1, n2, n3⟩ := hS.out.b2
      go_wp2_with fail
      replace hS := Lib.hid (hS.out.set 0 (.int .i64 v1))
      simp only [List.setIfInBounds_toArray, List.set_cons_zero] at hS
      refine (HB.out _ (hR.out.later hS.out.tail.tail.gold h9)).mono ?_
      rintro e w5 ⟨er2, rfl, b5⟩
      replace hS := Lib.hid (hS.out.below b5)
      clear b5 n0 n1 n2 n3
      obtain ⟨_, n0, n1, n2, n3⟩ := hS.out.b2
      go_wp2_with fail
      replace hS := Lib.hid (hS.out.set 1 (.int .i64 v2))
      simp only [List.setIfInBounds_toArray, List.set_cons_zero, List.set_cons_succ] at hS
      clear n0 n1 n2 n3 HA HB HC HP
      obtain ⟨_, n0, n1, _⟩ := hS.out.b2
      obtain ⟨_, m0, m1, _⟩ := hS.out.to1.b2
      by_cases hl : lv v1 v2 = -1
      · have HL := Lib.hid (fun W => level_r v1 v2 (-1) W hl)
        have fin : ReadV s 0 0 3 := .inr ⟨.inl (by rw [hV.out]; exact hl), rfl, rfl, rfl⟩
        replace fin := Lib.hid fin
        clear hl
        go_wp2_with fail
        refine (HL.out _).mono ?_
        rintro e w6 ⟨rfl, b6⟩
        replace hS := Lib.hid (hS.out.below b6)
        clear b6 n0 n1 m0 m1
        obtain ⟨_, n0, n1, _⟩ := hS.out.b2
        obtain ⟨_, m0, m1, m2, m3⟩ := hS.out.to1.b2
        go_wp2_with fail
        refine bodyPost_ret (v := .tuple #[(.agg #[.int .i64 0, .int .i64 0]), .int .i64 3]) (by simp [results, Tryd.results20, go_sem, *]) rfl ⟨_, _, _, rfl, fin.out, ?_⟩
        exact ((hS.out.to1.set 0 _).set 1 _).tail.tail.gold
      · obtain ⟨lx, hlx⟩ : ∃ x, Hid (lv v1 v2 = x) := ⟨_, rfl⟩
        have HL := Lib.hid (fun W => level_r v1 v2 lx W hlx.out)
        have ex : (lx == -1) = false := by rw [beq_eq_false_iff_ne, ← hlx.out]; exact hl
        by_cases ht : txt v1 v2 = s
        · have HT := Lib.hid (fun W => text_r v1 v2 s W ht)
          have fin : ReadV s v1 v2 0 := .inl ⟨by rw [hV.out]; exact hl, by rw [hV.out]; exact ht, by rw [hV.out], by rw [hV.out], rfl⟩
          replace fin := Lib.hid fin
          clear hl ht hlx
          go_wp2_with fail
          refine (HL.out _).mono ?_
          rintro e w6 ⟨rfl, b6⟩
          replace hS := Lib.hid (hS.out.below b6)
          clear b6 n0 n1 m0 m1
          obtain ⟨_, n0, n1, _⟩ := hS.out.b2
          obtain ⟨_, m0, m1, m2, m3⟩ := hS.out.to1.b2
          go_wp2_with fail
          refine (HT.out _).mono ?_
          rintro e w7 ⟨rfl, b7⟩
          replace hS := Lib.hid (hS.out.below b7)
          clear b7 n0 n1 m0 m1 m2 m3
          obtain ⟨_, n0, n1, _⟩ := hS.out.b2
          obtain ⟨_, m0, m1, m2, m3⟩ := hS.out.to1.b2
          go_wp2_with fail
          refine bodyPost_ret (v := .tuple #[(.agg #[.int .i64 v1, .int .i64 v2]), .int .i64 0]) (by simp [results, Tryd.results20, go_sem, *]) rfl ⟨_, _, _, rfl, fin.out, ?_⟩
          exact ((hS.out.to1.set 0 _).set 1 _).tail.tail.gold
        · obtain ⟨tx, htx⟩ : ∃ x, Hid (txt v1 v2 = x) := ⟨_, rfl⟩
          have HT := Lib.hid (fun W => text_r v1 v2 tx W htx.out)
          have e1 : ¬ tx = s := by rw [← htx.out]; exact ht
          have e2 : (tx.toList == s.toList) = false := ne_lists e1
          have fin : ReadV s 0 0 3 := .inr ⟨.inr (by rw [hV.out]; exact ht), rfl, rfl, rfl⟩
          replace fin := Lib.hid fin
          clear hl ht hlx htx
          go_wp2_with fail
          refine (HL.out _).mono ?_
          rintro e w6 ⟨rfl, b6⟩
          replace hS := Lib.hid (hS.out.below b6)
          clear b6 n0 n1 m0 m1
          obtain ⟨_, n0, n1, _⟩ := hS.out.b2
          obtain ⟨_, m0, m1, m2, m3⟩ := hS.out.to1.b2
          go_wp2_with fail
          refine (HT.out _).mono ?_
          rintro e w7 ⟨rfl, b7⟩
          replace hS := Lib.hid (hS.out.below b7)
          clear b7 n0 n1 m0 m1 m2 m3
          obtain ⟨_, n0, n1, _⟩ := hS.out.b2
          obtain ⟨_, m0, m1, m2, m3⟩ := hS.out.to1.b2
          go_wp2_with fail
          refine bodyPost_ret (v := .tuple #[(.agg #[.int .i64 0, .int .i64 0]), .int .i64 3]) (by simp [results, Tryd.results20, go_sem, *]) rfl ⟨_, _, _, rfl, fin.out, ?_⟩
          exact ((hS.out.to1.set 0 _).set 1 _).tail.tail.gold
end Go.Proofs.YtiaibmabmholaaaDoor
