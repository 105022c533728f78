/-
  The document's clock: at, less; the plain law of its lists. No condition beside a clock that can be read.
-/
import Derived.Test.YtcbjgibcgalppaaTkR
namespace Go.Proofs.Ytcbjgibcgalppaa
open Go.RowKit Go.Shelf
theorem ins_tw (x : Tm) : ∀ L : List Tm, insT x L = L.take (L.takeWhile fun y => ltT y x).length ++ x :: L.drop (L.takeWhile fun y => ltT y x).length
  | [] => rfl
  | y :: L => by
    unfold insT
    rw [List.takeWhile_cons]
    cases h : ltT y x with
    | true => simp [ins_tw x L]
    | false => simp
theorem erase_idx (p : Tm → Bool) : ∀ (L : List Tm) (k j : Nat), idxF p L k = ((k + j : Nat) : Int) → L.eraseP p = L.take j ++ L.drop (j + 1)
  | [], k, j, h => by simp [idxF] at h; omega
  | y :: L, k, j, h => by
    unfold idxF at h
    cases hp : p y with
    | true =>
      rw [hp, if_pos rfl] at h
      have : j = 0 := by omega
      subst this
      rw [List.eraseP_cons_of_pos hp]
      simp
    | false =>
      rw [hp, if_neg (by simp)] at h
      have h0 : j ≠ 0 := fun e => by
        subst e
        have hge : ∀ (M : List Tm) (q : Nat), idxF p M q = -1 ∨ (q : Int) ≤ idxF p M q := by
          intro M
          induction M with
          | nil => intro q; exact .inl rfl
          | cons z M ih =>
            intro q
            unfold idxF
            split
            · exact .inr (Int.le_refl _)
            · rcases ih (q + 1) with e | e
              · exact .inl e
              · exact .inr (by omega)
        rcases hge L (k + 1) with e | e <;> omega
      obtain ⟨j', rfl⟩ : ∃ j', j = j' + 1 := ⟨j - 1, by omega⟩
      have ih := erase_idx p L (k + 1) j' (by rw [h]; omega)
      rw [List.eraseP_cons_of_neg (by rw [hp]; simp), ih]
      simp
set_option maxHeartbeats 1000000 in
theorem rat_any (o : Nat) (T : Int) (L : List Tm) (who mark : Int) (w : World) (rs : List Res) (hS : Sep w (refR o T L :: rs)) (hn : L.length ≤ 900) : Calls Try.prog 31 #[.pointer (some ⟨o, 0, none⟩), .int .i64 who, .int .i64 mark] w fun e w' => e = .returned (.int .i64 (idxF (keyB who mark) L 0)) ∧ w' = w := by
  obtain ⟨a, c, hS1⟩ := ref_open hS
  obtain ⟨_, c0, c1, _⟩ := hS1.b2
  obtain ⟨n, hl⟩ : ∃ n, L.length = n := ⟨_, rfl⟩
  rw [hl] at hS1 c1 hn
  replace hl := Lib.hid hl
  replace hS1 := Lib.hid hS1
  clear hS
  go_enter Try.func31, Try.ntmps31
  go_wp2_with fail
  go_loopw [7] (fun i wr => ∃ k : Nat, k ≤ n ∧ i = .int .i64 k ∧ wr = w ∧ Hid (idxF (keyB who mark) L 0 = idxF (keyB who mark) (L.drop k) k)) (fun i _ => n - (intOf i).toNat)
  case atStart => exact ⟨0, Nat.zero_le _, rfl, rfl, rfl⟩
  case round =>
    obtain ⟨k, hk, rfl, rfl, he⟩ := hrel
    by_cases hlt : k < n
    · obtain ⟨g, rfl⟩ := av_some hS1.out.to1 (by omega)
      have hkl : k < L.length := by rw [hl.out]; exact hlt
      obtain ⟨⟨z0, z1, z2⟩, hg⟩ := hS1.out.to1.aAt k hkl
      have hd : L.drop k = gt_ L k :: L.drop (k + 1) := by
        rw [List.drop_eq_getElem_cons hkl]
        simp [gt_, List.getD_eq_getElem?_getD, hkl]
      rw [hd] at he
      generalize gt_ L k = x at *
      obtain ⟨x0, x1, x2⟩ := x
      simp only at z0 z1 z2
      have i1 : (0 : Int) ≤ (k : Int) := by omega
      have i2 : (k : Int) < (n : Int) := by omega
      clear hd hg
      by_cases h1 : x1 = who
      · subst h1
        by_cases h2 : x2 = mark
        · subst h2
          have hE := Lib.hid (show idxF (keyB x1 x2) L 0 = (k : Int) by rw [he.out]; simp [idxF, keyB])
          clear he
          go_wp2_with fail
          go_ret
          exact ⟨by rw [hE.out]; rfl, rfl⟩
        · have h2' : (x2 == mark) = false := beq_eq_false_iff_ne.2 h2
          have hE := Lib.hid (show idxF (keyB x1 mark) L 0 = idxF (keyB x1 mark) (L.drop (k + 1)) (k + 1) by rw [he.out]; simp [idxF, keyB, h2'])
          clear he
          replace h2 := Lib.hid h2
          go_wp2_with fail
          go_roundw
          case rel => exact ⟨k + 1, by omega, by go_num, by first | rfl | trivial, hE⟩
          case measure => simp [intOf]; omega
      · have h1' : (x1 == who) = false := beq_eq_false_iff_ne.2 h1
        have hE := Lib.hid (show idxF (keyB who mark) L 0 = idxF (keyB who mark) (L.drop (k + 1)) (k + 1) by rw [he.out]; simp [idxF, keyB, h1'])
        clear he
        replace h1 := Lib.hid h1
        go_wp2_with fail
        go_roundw
        case rel => exact ⟨k + 1, by omega, by go_num, by first | rfl | trivial, hE⟩
        case measure => simp [intOf]; omega
    · have hkn : k = n := by omega
      have hE := Lib.hid (show idxF (keyB who mark) L 0 = -1 by rw [he.out, List.drop_eq_nil_of_le (by rw [hl.out]; omega)]; rfl)
      clear he
      replace hkn := Lib.hid hkn
      go_wp2_with fail
      go_ret
      exact ⟨by rw [hE.out]; rfl, rfl⟩
theorem ltT_0 {a b : Tm} (h : a.1 ≠ b.1) : ltT a b = decide (a.1 < b.1) := by
  rw [Bool.eq_iff_iff, ltT_iff, decide_eq_true_iff]; omega
theorem ltT_1 {a b : Tm} (h : a.1 = b.1) (h2 : a.2.1 ≠ b.2.1) : ltT a b = decide (a.2.1 < b.2.1) := by
  rw [Bool.eq_iff_iff, ltT_iff, decide_eq_true_iff]; omega
theorem ltT_2 {a b : Tm} (h : a.1 = b.1) (h2 : a.2.1 = b.2.1) : ltT a b = decide (a.2.2 < b.2.2) := by
  rw [Bool.eq_iff_iff, ltT_iff, decide_eq_true_iff]; omega
theorem box2t' (w : World) (b0 b1 : Array Value) : Sep ((w.alloc (.cells b0 34)).alloc (.cells b1 34)) [blk (w.heap.size + 1) 34 b1, blk w.heap.size 34 b0, old w] := by
  have := ((Sep.start w).alloc b0 34).alloc b1 34
  rw [World.size_alloc] at this
  exact this
set_option maxHeartbeats 1000000 in
theorem rless_any (a b : Tm) (W : World) : Calls Try.prog 32 #[tV a, tV b] W fun e w' => e = .returned (.bool (ltT a b)) ∧ Below W.heap.size W w' := by
  obtain ⟨a0, a1, a2⟩ := a
  obtain ⟨b0, b1, b2⟩ := b
  have hB := Lib.hid (box2t' W #[.int .i64 a0, .int .i64 a1, .int .i64 a2] #[.int .i64 b0, .int .i64 b1, .int .i64 b2])
  unfold tV
  simp only
  by_cases h0 : a0 = b0
  · by_cases h1 : a1 = b1
    · rw [ltT_2 (a := (a0, a1, a2)) (b := (b0, b1, b2)) h0 h1]
      subst h0 h1
      go_enter Try.func32, Try.ntmps32
      go_wp2_with fail
      go_ret
      exact ⟨rfl, hB.out.tail.tail.gold⟩
    · rw [ltT_1 (a := (a0, a1, a2)) (b := (b0, b1, b2)) h0 h1]
      have h1' : (a1 != b1) = true := by simpa using h1
      subst h0
      replace h1 := Lib.hid h1
      go_enter Try.func32, Try.ntmps32
      go_wp2_with fail
      go_ret
      exact ⟨rfl, hB.out.tail.tail.gold⟩
  · rw [ltT_0 (a := (a0, a1, a2)) (b := (b0, b1, b2)) h0]
    have h0' : (a0 != b0) = true := by simpa using h0
    replace h0 := Lib.hid h0
    go_enter Try.func32, Try.ntmps32
    go_wp2_with fail
    go_ret
    exact ⟨rfl, hB.out.tail.tail.gold⟩
end Go.Proofs.Ytcbjgibcgalppaa
