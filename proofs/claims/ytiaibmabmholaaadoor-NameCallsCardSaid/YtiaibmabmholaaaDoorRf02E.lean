/-
  The reference's Read. No condition beside the text's length.
-/
import Derived.Test.YtiaibmabmholaaaDoorRf02D
namespace Go.Proofs.YtiaibmabmholaaaDoor
open Go.RowKit
theorem same_lines {a b : ByteArray} (h : a = b) : (a.toList == b.toList) = true := by subst h; simp
theorem numR_end (l : List UInt8) (i : Nat) : (numR l i).2 ≤ i + 2 := by
  unfold numR
  split
  · split <;> omega
  · omega
theorem textR_w (t r : Int) (s : ByteArray) (h : txt t r = s) (w : World) : Calls Tryd.prog 34 #[(.agg #[.int .i64 t, .int .i64 r])] w fun e w' => e = .returned (.string s) ∧ Below w.heap.size w w' := by
  subst h
  exact textR_any t r w
set_option maxHeartbeats 2000000 in
theorem readR_any (s : ByteArray) (hs : s.size ≤ 60) (w : World) : Calls Tryd.prog 28 #[.string s] w fun e w' => ∃ t r c, e = .returned (.tuple #[(.agg #[.int .i64 t, .int .i64 r]), .int .i64 c]) ∧ ReadV s t r c ∧ Below w.heap.size w w' := by
  have hS0 := Lib.hid ((Sep.start w).alloc #[Value.int .i64 (0), Value.int .i64 (0)] 23)
  have hlen : s.data.toList.length = s.size := by simp
  by_cases hd : s = ⟨#[100, 98]⟩
  · have hr : rdR s = (-1, -1) := by rw [hd]; rfl
    have ed : (s.toList == [100, 98]) = true := by have := same_lines hd; rwa [Go.ByteArray.toList_eq ⟨#[100, 98]⟩] at this
    obtain ⟨T, hT⟩ : ∃ T, Hid (txt (-1) (-1) = T) := ⟨_, rfl⟩
    have TX := Lib.hid (fun W => textR_w (-1) (-1) T hT.out W)
    replace hr := Lib.hid hr
    clear hd
    go_enter Tryd.func28, Tryd.ntmps28
    go_wp2_with fail
    refine (databaseR_any _).mono ?_
    rintro e w1 ⟨rfl, b1⟩
    have H1 := Lib.hid (hS0.out.below b1)
    have hS := Lib.hid ((hS0.out.below b1).alloc #[Value.int .i64 (-1), Value.int .i64 (-1)] 23)
    clear b1 hS0
    obtain ⟨_, n0, n1, _⟩ := hS.out.b2
    go_wp2_with fail
    refine (TX.out _).mono ?_
    rintro e w5 ⟨rfl, b1⟩
    replace hS := Lib.hid (hS.out.below b1)
    clear b1 n0 n1 ed
    by_cases hq : T = s
    · have fin := Lib.hid (ReadV.ofR (s := s) (t := (-1)) (r := (-1)) (c := 0) (.inl ⟨by rw [hr.out, hT.out]; exact hq, by rw [hr.out], by rw [hr.out], rfl⟩))
      have ex := same_lines hq
      obtain ⟨_, n0, n1, _⟩ := hS.out.b2
      obtain ⟨_, m0, m1, m2, m3⟩ := hS.out.to1.b2
      clear hq
      go_wp2_with fail
      refine bodyPost_ret (v := .tuple #[(.agg #[.int .i64 (-1), .int .i64 (-1)]), .int .i64 0]) (by simp [results, Tryd.results28, go_sem, *]) rfl ⟨_, _, _, rfl, fin.out, ?_⟩
      exact ((hS.out.to1.set 0 _).set 1 _).tail.tail.gold
    · have fin := Lib.hid (ReadV.ofR (s := s) (t := 0) (r := 0) (c := 3) (.inr ⟨by rw [hr.out, hT.out]; exact hq, rfl, rfl, rfl⟩))
      have ex := ne_lists hq
      obtain ⟨_, m0, m1, m2, m3⟩ := hS.out.to1.b2
      clear hq
      go_wp2_with fail
      refine bodyPost_ret (v := .tuple #[(.agg #[.int .i64 0, .int .i64 0]), .int .i64 3]) (by simp [results, Tryd.results28, go_sem, *]) rfl ⟨_, _, _, rfl, fin.out, ?_⟩
      exact ((hS.out.to1.set 0 _).set 1 _).tail.tail.gold
  · have ed : (s.toList == [100, 98]) = false := by have := ne_lists hd; rwa [Go.ByteArray.toList_eq ⟨#[100, 98]⟩] at this
    by_cases h1 : s.size ≤ 1
    · have hr : rdR s = (-1, -1) := by
        unfold rdR rdL
        rw [if_pos (.inr (by rw [hlen]; exact h1))]
      replace hr := Lib.hid hr
      have h1' : (s.size : Int) ≤ 1 := by omega
      clear hd
      obtain ⟨T, hT⟩ : ∃ T, Hid (txt (-1) (-1) = T) := ⟨_, rfl⟩
      have TX := Lib.hid (fun W => textR_w (-1) (-1) T hT.out W)
      go_enter Tryd.func28, Tryd.ntmps28
      go_wp2_with fail
      refine (databaseR_any _).mono ?_
      rintro e w1 ⟨rfl, b1⟩
      have H1 := Lib.hid (hS0.out.below b1)
      have hS := Lib.hid ((hS0.out.below b1).alloc #[Value.int .i64 (-1), Value.int .i64 (-1)] 23)
      clear b1 hS0
      obtain ⟨_, n0, n1, _⟩ := hS.out.b2
      go_wp2_with fail
      refine (TX.out _).mono ?_
      rintro e w5 ⟨rfl, b1⟩
      replace hS := Lib.hid (hS.out.below b1)
      clear b1 n0 n1 ed
      by_cases hq : T = s
      · have fin := Lib.hid (ReadV.ofR (s := s) (t := (-1)) (r := (-1)) (c := 0) (.inl ⟨by rw [hr.out, hT.out]; exact hq, by rw [hr.out], by rw [hr.out], rfl⟩))
        have ex := same_lines hq
        obtain ⟨_, n0, n1, _⟩ := hS.out.b2
        obtain ⟨_, m0, m1, m2, m3⟩ := hS.out.to1.b2
        clear hq
        go_wp2_with fail
        refine bodyPost_ret (v := .tuple #[(.agg #[.int .i64 (-1), .int .i64 (-1)]), .int .i64 0]) (by simp [results, Tryd.results28, go_sem, *]) rfl ⟨_, _, _, rfl, fin.out, ?_⟩
        exact ((hS.out.to1.set 0 _).set 1 _).tail.tail.gold
      · have fin := Lib.hid (ReadV.ofR (s := s) (t := 0) (r := 0) (c := 3) (.inr ⟨by rw [hr.out, hT.out]; exact hq, rfl, rfl, rfl⟩))
        have ex := ne_lists hq
        obtain ⟨_, m0, m1, m2, m3⟩ := hS.out.to1.b2
        clear hq
        go_wp2_with fail
        refine bodyPost_ret (v := .tuple #[(.agg #[.int .i64 0, .int .i64 0]), .int .i64 3]) (by simp [results, Tryd.results28, go_sem, *]) rfl ⟨_, _, _, rfl, fin.out, ?_⟩
        exact ((hS.out.to1.set 0 _).set 1 _).tail.tail.gold
    · have hdl : ¬ (s.data.toList = [100, 98] ∨ s.data.toList.length ≤ 1) := by
        rintro (h | h)
        · apply hd
          cases s
          exact congrArg ByteArray.mk (Array.toList_inj.1 h)
        · omega
      obtain ⟨a, j, hn⟩ : ∃ a j, numR s.data.toList 1 = (a, j) := ⟨_, _, rfl⟩
      have hj : j ≤ 3 := by have := numR_end s.data.toList 1; rw [hn] at this; exact this
      have N1 := Lib.hid (fun W => numberR_any s 1 (by omega) (by omega) W)
      rw [hn] at N1
      have h1' : (1 : Int) < (s.size : Int) := by omega
      by_cases h2 : j + 2 < s.size
      · obtain ⟨b, j2, hn2⟩ : ∃ b j2, numR s.data.toList (j + 2) = (b, j2) := ⟨_, _, rfl⟩
        have N2 := Lib.hid (fun W => numberR_any s (j + 2) (by omega) (by omega) W)
        rw [hn2] at N2
        rw [show ((j + 2 : Nat) : Int) = (j : Int) + 2 from rfl] at N2
        have hr := Lib.hid (show rdR s = ((a : Int), (b : Int)) by
          unfold rdR rdL
          rw [if_neg hdl, hn]
          simp only [hlen]
          rw [if_pos h2, hn2])
        have h2' : (j : Int) + 2 < (s.size : Int) := by omega
        have h3' : (0 : Int) ≤ (j : Int) := by omega
        have h4' : (j : Int) ≤ 3 := by omega
        clear hdl hd hn hn2 h1 h2 hj hlen
        obtain ⟨T, hT⟩ : ∃ T, Hid (txt a b = T) := ⟨_, rfl⟩
        have TX := Lib.hid (fun W => textR_w a b T hT.out W)
        go_enter Tryd.func28, Tryd.ntmps28
        go_wp2_with fail
        refine (databaseR_any _).mono ?_
        rintro e w1 ⟨rfl, b1⟩
        have H1 := Lib.hid (hS0.out.below b1)
        have hS := Lib.hid ((hS0.out.below b1).alloc #[Value.int .i64 (-1), Value.int .i64 (-1)] 23)
        clear b1 hS0
        go_wp2_with fail
        refine (N1.out _).mono ?_
        rintro e w2 ⟨rfl, rfl⟩
        obtain ⟨_, n0, n1, n2, n3⟩ := hS.out.b2
        go_wp2_with fail
        refine (N2.out _).mono ?_
        rintro e w3 ⟨rfl, rfl⟩
        go_wp2_with fail
        clear n0 n1 n2 n3
        replace hS := Lib.hid (H1.out.alloc #[Value.int .i64 (a), Value.int .i64 (b)] 23)
        refine (TX.out _).mono ?_
        rintro e w5 ⟨rfl, b1⟩
        replace hS := Lib.hid (hS.out.below b1)
        clear b1 ed
        by_cases hq : T = s
        · have fin := Lib.hid (ReadV.ofR (s := s) (t := a) (r := b) (c := 0) (.inl ⟨by rw [hr.out, hT.out]; exact hq, by rw [hr.out], by rw [hr.out], rfl⟩))
          have ex := same_lines hq
          obtain ⟨_, n0, n1, _⟩ := hS.out.b2
          obtain ⟨_, m0, m1, m2, m3⟩ := hS.out.to1.b2
          clear hq
          go_wp2_with fail
          refine bodyPost_ret (v := .tuple #[(.agg #[.int .i64 a, .int .i64 b]), .int .i64 0]) (by simp [results, Tryd.results28, go_sem, *]) rfl ⟨_, _, _, rfl, fin.out, ?_⟩
          exact ((hS.out.to1.set 0 _).set 1 _).tail.tail.gold
        · have fin := Lib.hid (ReadV.ofR (s := s) (t := 0) (r := 0) (c := 3) (.inr ⟨by rw [hr.out, hT.out]; exact hq, rfl, rfl, rfl⟩))
          have ex := ne_lists hq
          obtain ⟨_, m0, m1, m2, m3⟩ := hS.out.to1.b2
          clear hq
          go_wp2_with fail
          refine bodyPost_ret (v := .tuple #[(.agg #[.int .i64 0, .int .i64 0]), .int .i64 3]) (by simp [results, Tryd.results28, go_sem, *]) rfl ⟨_, _, _, rfl, fin.out, ?_⟩
          exact ((hS.out.to1.set 0 _).set 1 _).tail.tail.gold
      · have hr := Lib.hid (show rdR s = ((a : Int), (-1 : Int)) by
          unfold rdR rdL
          rw [if_neg hdl, hn]
          simp only [hlen]
          rw [if_neg h2])
        have h2' : ¬ ((j : Int) + 2 < (s.size : Int)) := by omega
        have h3' : (0 : Int) ≤ (j : Int) := by omega
        have h4' : (j : Int) ≤ 3 := by omega
        clear hdl hd hn h1 h2 hj hlen
        obtain ⟨T, hT⟩ : ∃ T, Hid (txt a (-1) = T) := ⟨_, rfl⟩
        have TX := Lib.hid (fun W => textR_w a (-1) T hT.out W)
        go_enter Tryd.func28, Tryd.ntmps28
        go_wp2_with fail
        refine (databaseR_any _).mono ?_
        rintro e w1 ⟨rfl, b1⟩
        have H1 := Lib.hid (hS0.out.below b1)
        have hS := Lib.hid ((hS0.out.below b1).alloc #[Value.int .i64 (-1), Value.int .i64 (-1)] 23)
        clear b1 hS0
        go_wp2_with fail
        refine (N1.out _).mono ?_
        rintro e w2 ⟨rfl, rfl⟩
        obtain ⟨_, n0, n1, n2, n3⟩ := hS.out.b2
        go_wp2_with fail
        clear n0 n1 n2 n3
        replace hS := Lib.hid (H1.out.alloc #[Value.int .i64 (a), Value.int .i64 (-1)] 23)
        refine (TX.out _).mono ?_
        rintro e w5 ⟨rfl, b1⟩
        replace hS := Lib.hid (hS.out.below b1)
        clear b1 ed
        by_cases hq : T = s
        · have fin := Lib.hid (ReadV.ofR (s := s) (t := a) (r := (-1)) (c := 0) (.inl ⟨by rw [hr.out, hT.out]; exact hq, by rw [hr.out], by rw [hr.out], rfl⟩))
          have ex := same_lines hq
          obtain ⟨_, n0, n1, _⟩ := hS.out.b2
          obtain ⟨_, m0, m1, m2, m3⟩ := hS.out.to1.b2
          clear hq
          go_wp2_with fail
          refine bodyPost_ret (v := .tuple #[(.agg #[.int .i64 a, .int .i64 (-1)]), .int .i64 0]) (by simp [results, Tryd.results28, go_sem, *]) rfl ⟨_, _, _, rfl, fin.out, ?_⟩
          exact ((hS.out.to1.set 0 _).set 1 _).tail.tail.gold
        · have fin := Lib.hid (ReadV.ofR (s := s) (t := 0) (r := 0) (c := 3) (.inr ⟨by rw [hr.out, hT.out]; exact hq, rfl, rfl, rfl⟩))
          have ex := ne_lists hq
          obtain ⟨_, m0, m1, m2, m3⟩ := hS.out.to1.b2
          clear hq
          go_wp2_with fail
          refine bodyPost_ret (v := .tuple #[(.agg #[.int .i64 0, .int .i64 0]), .int .i64 3]) (by simp [results, Tryd.results28, go_sem, *]) rfl ⟨_, _, _, rfl, fin.out, ?_⟩
          exact ((hS.out.to1.set 0 _).set 1 _).tail.tail.gold
end Go.Proofs.YtiaibmabmholaaaDoor
