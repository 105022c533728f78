/-
  Contracts and plain laws that the walk leans on, part 18. No condition.
-/
import Derived.Test.YtcnkmhfcgkbhbaaGreatZCl17
namespace Go.Proofs.YtcnkmhfcgkbhbaaGreat
open Go.RowKit
def ltB (a b : Ed) : Bool := decide (a.from_ < b.from_) || (a.from_ == b.from_ && decide (a.tgt < b.tgt))
theorem ltB_iff (a b : Ed) : ltB a b = true ↔ ltE a b := by simp [ltB, ltE]
/-- The place of an edge among sorted ones. -/
def kS (l : List Ed) (e : Ed) : Nat := l.findIdx fun x => !ltB x e
def insS (l : List Ed) (e : Ed) : List Ed := if l[kS l e]? = some e then l else l.take (kS l e) ++ [e] ++ l.drop (kS l e)
theorem kS_eq (l : List Ed) (e : Ed) (k : Nat) (hk : k ≤ l.length) (h1 : ∀ x ∈ l.take k, ltB x e = true) (h2 : ∀ x, l[k]? = some x → ltB x e = false) : kS l e = k := by
  unfold kS
  conv => lhs; rw [← List.take_append_drop k l]
  rw [List.findIdx_append, if_neg]
  · rw [List.length_take, Nat.min_eq_left hk]
    cases hd : l.drop k with
    | nil => simp
    | cons x xs =>
      have : l[k]? = some x := by
        have := congrArg (·[0]?) hd
        simpa using this
      simp [List.findIdx_cons, h2 x this]
  · rw [Nat.not_lt]
    refine Nat.le_of_eq (List.findIdx_eq_length.2 fun x hx => ?_).symm
    rw [h1 x hx]
    rfl
theorem insS_mem (l : List Ed) (e x : Ed) : x ∈ insS l e ↔ x ∈ l ∨ x = e := by
  unfold insS
  split
  · rename_i h
    have := List.mem_of_getElem? h
    constructor
    · exact .inl
    · rintro (h | rfl)
      · exact h
      · exact this
  · conv => rhs; rw [← List.take_append_drop (kS l e) l]
    simp only [List.mem_append, List.mem_singleton]
    constructor
    · rintro ((h | h) | h)
      · exact .inl (.inl h)
      · exact .inr h
      · exact .inl (.inr h)
    · rintro ((h | h) | h)
      · exact .inl (.inl h)
      · exact .inr h
      · exact .inl (.inr h)
theorem insS_pw (l : List Ed) (e : Ed) (h : l.Pairwise ltE) : (insS l e).Pairwise ltE := by
  unfold insS
  split
  · exact h
  · rename_i hne
    have hlow : ∀ x ∈ l.take (kS l e), ltE x e := by
      intro x hx
      obtain ⟨i, hi, rfl⟩ := List.mem_take_iff_getElem.1 hx
      have hi2 : i < kS l e := by omega
      have h3 := List.not_of_lt_findIdx hi2
      have h4 : ltB (l[i]'(by omega)) e = true := by
        cases hb : ltB (l[i]'(by omega)) e with
        | true => rfl
        | false => rw [hb] at h3; cases h3
      exact (ltB_iff _ _).1 h4
    have hhigh : ∀ x ∈ l.drop (kS l e), ltE e x := by
      intro x hx
      obtain ⟨i, hi, rfl⟩ := List.mem_drop_iff_getElem.1 hx
      have hk : kS l e < l.length := by omega
      have h3 : (!ltB l[kS l e] e) = true := List.findIdx_getElem (w := hk)
      have h4 : ¬ ltE l[kS l e] e := by
        rw [← ltB_iff]
        intro h
        rw [h] at h3
        cases h3
      have h5 : l[kS l e] ≠ e := by
        intro h
        exact hne (by rw [List.getElem?_eq_getElem hk, h])
      have h6 : ltE e l[kS l e] := by
        generalize l[kS l e] = y at *
        obtain ⟨a, b⟩ := y
        obtain ⟨c, d⟩ := e
        simp only [ltE, ne_eq, Ed.mk.injEq] at *
        omega
      by_cases h0 : i = 0
      · subst h0
        exact h6
      · have h7 := List.pairwise_iff_getElem.1 h (kS l e) (kS l e + i) hk (by omega) (by omega)
        generalize l[kS l e] = y at h6 h7
        generalize l[kS l e + i] = x at h7 ⊢
        simp only [ltE] at *
        omega
    rw [List.append_assoc, List.pairwise_append]
    refine ⟨h.sublist (List.take_sublist _ _), ?_, fun x hx y hy => ?_⟩
    · rw [List.singleton_append, List.pairwise_cons]
      exact ⟨hhigh, h.sublist (List.drop_sublist _ _)⟩
    · rcases List.mem_append.1 hy with hy | hy
      · simp only [List.mem_singleton] at hy
        subst hy
        exact hlow x hx
      · have h1 := hlow x hx
        have h2 := hhigh y hy
        simp only [ltE] at *
        omega
theorem insS_fold (L : List Ed) : L.foldl insS [] = sdE L := by
  have key : ∀ (l O : List Ed), O.Pairwise ltE → (l.foldl insS O).Pairwise ltE ∧ ∀ x, x ∈ l.foldl insS O ↔ x ∈ O ∨ x ∈ l := by
    intro l
    induction l with
    | nil => exact fun O h => ⟨h, by simp⟩
    | cons e l ih =>
      intro O h
      obtain ⟨h1, h2⟩ := ih (insS O e) (insS_pw O e h)
      refine ⟨h1, fun x => ?_⟩
      rw [List.foldl_cons, h2, insS_mem, List.mem_cons, or_assoc]
  obtain ⟨h1, h2⟩ := key L [] (by simp)
  exact ltE_uniq _ _ h1 (sdE_pw L) fun x => by rw [h2, sdE_mem]; simp
end Go.Proofs.YtcnkmhfcgkbhbaaGreat
namespace Go.Proofs.YtcnkmhfcgkbhbaaGreat
open Go.RowKit
set_option maxHeartbeats 4000000 in
theorem less_any (a b : Ed) (W : World) : Calls Tryz.prog 29 #[val_ed a, val_ed b] W fun e w' => e = .returned (.bool (ltB a b)) ∧ Below W.heap.size W w' := by
  obtain ⟨af, at_⟩ := a
  obtain ⟨bf, bt⟩ := b
  have hB := Lib.hid (box2e W #[.int .i64 af, .int .i64 at_] #[.int .i64 bf, .int .i64 bt])
  obtain ⟨_, d0, d1, _⟩ := hB.out.b2
  obtain ⟨_, c0, c1, _⟩ := hB.out.to1.b2
  unfold ltB val_ed
  simp only
  by_cases h1 : af < bf
  · have e1 : decide (af < bf) = true := by simp [h1]
    rw [e1]
    go_enter Tryz.func29, Tryz.ntmps29
    go_wp2_with fail
    go_ret
    exact ⟨rfl, hB.out.tail.tail.gold⟩
  · have e1 : decide (af < bf) = false := by simp [h1]
    rw [e1]
    by_cases h2 : af = bf
    · subst h2
      have e2 : (af == af) = true := by simp
      rw [e2]
      go_enter Tryz.func29, Tryz.ntmps29
      go_wp2_with fail
      go_ret
      exact ⟨rfl, hB.out.tail.tail.gold⟩
    · have e2 : (af == bf) = false := by simp [h2]
      rw [e2]
      go_enter Tryz.func29, Tryz.ntmps29
      go_wp2_with fail
      go_ret
      exact ⟨rfl, hB.out.tail.tail.gold⟩
theorem fresh_ed (w : World) : Sep (w.alloc (.cells #[] 30)) [vec 30 2 (.slice (some ⟨w.heap.size, 0, none⟩) 0 0) 0 [], old w] :=
  (Sep.start w).vec_new (World.ownsRow_made w #[] 0 (Nat.le_refl _) (Nat.zero_le _) rfl) ((Below.refl _ _).alloc (Nat.le_refl _) _)
/-- The first few of edges as a source. -/
theorem src_take {w : World} {a : Option Addr} {n c k : Nat} {O : List Ed} {rs : List Res} (h : Sep w (vec 30 2 (.slice a n c) n (O.flatMap Ed.cells) :: rs)) (hn : O.length = n) (hk : k ≤ n) : SrcA w 2 (.slice a k c) k ((O.take k).flatMap Ed.cells) := by
  subst hn
  obtain ⟨hl, a', c', hv, hc, hna, hz⟩ := h.vec_rl
  injection hv with e1 _ e3
  subst e1 e3
  have hlen : ((O.take k).flatMap Ed.cells).length = k * 2 := by rw [flat_len Ed.cells 2 ed_len, List.length_take, Nat.min_eq_left hk]
  refine RL.srcA (n := k) ⟨hlen, a, c, rfl, by omega, hna, fun h0 => ?_⟩
  obtain ⟨b, off, ha, hb, hz⟩ := hz (by omega)
  refine ⟨b, off, ha, hb, fun j u hj => hz j u ?_⟩
  rw [← flat_take Ed.cells 2 ed_len O k hk, List.getElem?_take] at hj
  split at hj
  · exact hj
  · cases hj
theorem flat_drop (O : List Ed) (k : Nat) (hk : k ≤ O.length) : (O.flatMap Ed.cells).drop (k * 2) = (O.drop k).flatMap Ed.cells := by
  conv => lhs; rw [← List.take_append_drop k O, List.flatMap_append]
  have hl : ((O.take k).flatMap Ed.cells).length = k * 2 := by rw [flat_len Ed.cells 2 ed_len, List.length_take, Nat.min_eq_left hk]
  rw [← hl, List.drop_left]
/-- The rest of edges as a source. -/
theorem src_drop {w : World} {g n c k c' : Nat} {O : List Ed} {rs : List Res} (h : Sep w (vec 30 2 (.slice (some ⟨g, 0, none⟩) n c) n (O.flatMap Ed.cells) :: rs)) (hn : O.length = n) (hk : k ≤ n) : SrcA w 2 (.slice (some ⟨g, k * 2, none⟩) (n - k) c') (n - k) ((O.drop k).flatMap Ed.cells) := by
  refine .inr ⟨_, _, rfl, by rw [flat_len Ed.cells 2 ed_len, List.length_drop, hn], fun j u hj => ?_⟩
  rw [Addr.add_lit]
  rw [← flat_drop O k (by omega), List.getElem?_drop] at hj
  exact (h.vec_cell hj).1
set_option maxHeartbeats 8000000 in
set_option maxRecDepth 100000 in
theorem sortedR_any (v : Value) (L : List Ed) (w : World) (hv : RL w v 2 L.length (L.flatMap Ed.cells)) (hl : L.length ≤ 4000) :
    Calls Tryz.prog 13 #[v] w fun e w' => ∃ a c, e = .returned (.slice a (sdE L).length c) ∧ Sep w' [vec 30 2 (.slice a (sdE L).length c) (sdE L).length ((sdE L).flatMap Ed.cells), old w] := by
  have hv2 := Lib.hid hv
  obtain ⟨_, va, vp, rfl, _⟩ := hv
  obtain ⟨n0, hn0⟩ : ∃ n0, Hid (L.length = n0) := ⟨_, rfl⟩
  rw [hn0.out] at hv2 hl ⊢
  have hfin := Lib.hid (insS_fold L)
  obtain ⟨i0, hi0, hz0, hz1, hz2⟩ := info_parts info_ed
  have h1c : Hid (∀ x y, ∀ u ∈ ([.int .i64 x, .int .i64 y] : List Value), u.oneCell' = true) := Lib.hid (by simp [Value.oneCell'])
  have h1d := Lib.hid edcells_one
  have hV0 := Lib.hid ((Sep.start w).vec_nil 30 2)
  go_enter Tryz.func13, Tryz.ntmps13
  go_wp2_with fail
  go_loopg [3, 4] n0 (fun gm s3 s4 W => ∃ (i : Nat) (O : List Ed) (ao : Option Addr) (co n : Nat), i ≤ n0 ∧ gm = n0 - i ∧ s3 = .slice ao n co ∧ s4 = .int .i64 i ∧ Hid (O = (L.take i).foldl insS []) ∧ Hid (O.length = n) ∧ n ≤ i ∧ (n = 0 → ao = none ∧ co = 0) ∧ Hid (Sep W [vec 30 2 (.slice ao n co) n (O.flatMap Ed.cells), old w]))
  case atStart => exact ⟨0, [], none, 0, 0, Nat.zero_le _, rfl, rfl, rfl, Lib.hid rfl, Lib.hid rfl, by omega, fun _ => ⟨rfl, rfl⟩, hV0⟩
  case round =>
    clear hV0
    obtain ⟨i, O, ao, co, n, hi, hgm, rfl, rfl, hO, hOn, hni, hnil, hV⟩ := hrel
    by_cases hlt : i < n0
    · obtain ⟨b, off, rfl, hb, zz⟩ := cells_ed hv2.out hn0.out (by omega)
      have hil : i < L.length := by rw [hn0.out]; exact hlt
      have c0 : w.cell? ⟨b, off + i * 2, none⟩ = some (.int .i64 L[i].from_) := zz i _ (List.getElem?_eq_getElem hil) 0 _ rfl
      have c1 : w.cell? ⟨b, off + i * 2 + 1, none⟩ = some (.int .i64 L[i].tgt) := zz i _ (List.getElem?_eq_getElem hil) 1 _ rfl
      have hO2 := Lib.hid (show (L.take (i + 1)).foldl insS [] = insS O L[i] by rw [List.take_succ_eq_append_getElem hil, List.foldl_append, ← hO.out]; rfl)
      clear zz
      obtain ⟨e, he⟩ : ∃ e, L[i] = e := ⟨_, rfl⟩
      rw [he] at c0 c1 hO2
      clear he
      obtain ⟨ef, et⟩ := e
      simp only at c0 c1
      have i1 : (0 : Int) ≤ (i : Int) := by omega
      have i2 : (i : Int) < (n0 : Int) := by omega
      replace hO := Lib.hid hO.out
      go_wp2_with fail
      go_loopg [5] n (fun gm s5 W => ∃ k : Nat, k ≤ n ∧ gm = n - k ∧ s5 = .int .i64 k ∧ Hid (∀ x ∈ O.take k, ltB x ⟨ef, et⟩ = true) ∧ Hid (Sep W [vec 30 2 (.slice ao n co) n (O.flatMap Ed.cells), old w]))
      case atStart => exact ⟨0, Nat.zero_le _, rfl, rfl, Lib.hid (by simp), hV⟩
      case round =>
        clear hV
        obtain ⟨k, hk, hg2, rfl, hlow, hV⟩ := hrel
        have k0 : (0 : Int) ≤ (k : Int) := by omega
        by_cases hkn : k < n
        · have k1 : (k : Int) < (n : Int) := by omega
          obtain ⟨g, cap, cur, hgv, _⟩ := hV.out.gvec.2.resolve_left (by rintro ⟨_, h⟩; omega)
          injection hgv with e1 _ e3
          subst e1 e3
          have hkl : k < O.length := by rw [hOn.out]; exact hkn
          have hx0 := Lib.hid (show (O.flatMap Ed.cells)[k * 2]? = some (.int .i64 O[k].from_) from flat_at Ed.cells 2 ed_len O k 0 _ (List.getElem?_eq_getElem hkl) (by omega))
          have hx1 := Lib.hid (show (O.flatMap Ed.cells)[k * 2 + 1]? = some (.int .i64 O[k].tgt) from flat_at Ed.cells 2 ed_len O k 1 _ (List.getElem?_eq_getElem hkl) (by omega))
          have hkx := Lib.hid (List.getElem?_eq_getElem hkl)
          have hkt := Lib.hid (List.take_succ_eq_append_getElem hkl)
          obtain ⟨x, hx⟩ : ∃ x, O[k] = x := ⟨_, rfl⟩
          rw [hx] at hx0 hx1 hkx hkt
          clear hx hkl
          obtain ⟨xf, xt⟩ := x
          have hless := Lib.hid (fun W => less_any ⟨xf, xt⟩ ⟨ef, et⟩ W)
          unfold val_ed at hless
          simp only at hless hx0 hx1
          cases hbb : ltB ⟨xf, xt⟩ ⟨ef, et⟩ with
          | true =>
            rw [hbb] at hless
            go_wp2_with fail
            have hS := Lib.hid (show (fun W : World => Sep W [vec 30 2 (.slice (some ⟨g, 0, none⟩) n co) n (O.flatMap Ed.cells), old w]) _ from hV.out.drew)
            refine hl_begin (fun W : World => Sep W [vec 30 2 (.slice (some ⟨g, 0, none⟩) n co) n (O.flatMap Ed.cells), old w]) [(0, true), (1, true), (2, true), (3, true), (4, true), (5, true), (6, true), (7, true), (8, true), (9, true), (10, true), (11, true), (12, true), (13, false), (14, true)] (by kernel_rfl) (by kernel_rfl) (by kernel_rfl) rfl (fun _ _ _ _ _ h => h) hS.out ?_
            change HL _ _ _ _ _ _ (World.drew _)
            generalize World.drew _ = wd at *
            refine hl_take ?v15 rfl (by kernel_rfl) ?y15 ?z15
            case y15 => intro W hW; skip; replace hW := Lib.hid hW; go_simp; try rfl
            case z15 =>
            simp only [Act.put, List.setIfInBounds_toArray, List.set_cons_succ, List.set_cons_zero, List.getElem_toArray, List.getElem_cons_zero, List.getElem_cons_succ]
            refine hl_take ?v16 rfl (by kernel_rfl) ?y16 ?z16
            case y16 => intro W hW; skip; replace hW := Lib.hid hW; go_simp; try rfl
            case z16 =>
            simp only [Act.put, List.setIfInBounds_toArray, List.set_cons_succ, List.set_cons_zero, List.getElem_toArray, List.getElem_cons_zero, List.getElem_cons_succ]
            refine hl_take ?v17 rfl (by kernel_rfl) ?y17 ?z17
            case y17 => intro W hW; skip; replace hW := Lib.hid hW; go_simp; try rfl
            case z17 =>
            simp only [Act.put, List.setIfInBounds_toArray, List.set_cons_succ, List.set_cons_zero, List.getElem_toArray, List.getElem_cons_zero, List.getElem_cons_succ]
            refine hl_take ?v18 rfl (by kernel_rfl) ?y18 ?z18
            case y18 => intro W hW; skip; replace hW := Lib.hid hW; go_simp; try rfl
            case z18 =>
            simp only [Act.put, List.setIfInBounds_toArray, List.set_cons_succ, List.set_cons_zero, List.getElem_toArray, List.getElem_cons_zero, List.getElem_cons_succ]
            refine hl_take ?v19 rfl (by kernel_rfl) ?y19 ?z19
            case y19 => intro W hW; skip; replace hW := Lib.hid hW; go_simp; try rfl
            case z19 =>
            simp only [Act.put, List.setIfInBounds_toArray, List.set_cons_succ, List.set_cons_zero, List.getElem_toArray, List.getElem_cons_zero, List.getElem_cons_succ]
            refine hl_take ?v20 rfl (by kernel_rfl) ?y20 ?z20
            case y20 => intro W hW; skip; replace hW := Lib.hid hW; go_simp; try rfl
            case z20 =>
            simp only [Act.put, List.setIfInBounds_toArray, List.set_cons_succ, List.set_cons_zero, List.getElem_toArray, List.getElem_cons_zero, List.getElem_cons_succ]
            refine hl_take ?v21 rfl (by kernel_rfl) ?y21 ?z21
            case y21 => intro W hW; skip; replace hW := Lib.hid hW; go_simp; try rfl
            case z21 =>
            simp only [Act.put, List.setIfInBounds_toArray, List.set_cons_succ, List.set_cons_zero, List.getElem_toArray, List.getElem_cons_zero, List.getElem_cons_succ]
            refine hl_take ?v22 rfl (by kernel_rfl) ?y22 ?z22
            case y22 => intro W hW; skip; replace hW := Lib.hid hW; go_simp; try rfl
            case z22 =>
            simp only [Act.put, List.setIfInBounds_toArray, List.set_cons_succ, List.set_cons_zero, List.getElem_toArray, List.getElem_cons_zero, List.getElem_cons_succ]
            refine hl_take ?v23 rfl (by kernel_rfl) ?y23 ?z23
            case y23 => intro W hW; change Sep W _ at hW; have x0 := (hW.vec_cell hx0.out).1; have x1 := (hW.vec_cell hx1.out).1; have y0 := ((hW.tail.gold.cell (p := ⟨b, off + i * 2, none⟩) hb)).trans c0; have y1 := ((hW.tail.gold.cell (p := ⟨b, off + i * 2 + 1, none⟩) hb)).trans c1; replace hW := Lib.hid hW; go_simp; try rfl
            case z23 =>
            simp only [Act.put, List.setIfInBounds_toArray, List.set_cons_succ, List.set_cons_zero, List.getElem_toArray, List.getElem_cons_zero, List.getElem_cons_succ]
            refine hl_take ?v24 rfl (by kernel_rfl) ?y24 ?z24
            case y24 => intro W hW; skip; replace hW := Lib.hid hW; go_simp; try rfl
            case z24 =>
            simp only [Act.put, List.setIfInBounds_toArray, List.set_cons_succ, List.set_cons_zero, List.getElem_toArray, List.getElem_cons_zero, List.getElem_cons_succ]
            refine hl_take ?v25 rfl (by kernel_rfl) ?y25 ?z25
            case y25 => intro W hW; skip; replace hW := Lib.hid hW; go_simp; try rfl
            case z25 =>
            simp only [Act.put, List.setIfInBounds_toArray, List.set_cons_succ, List.set_cons_zero, List.getElem_toArray, List.getElem_cons_zero, List.getElem_cons_succ]
            refine hl_take ?v26 rfl (by kernel_rfl) ?y26 ?z26
            case y26 => intro W hW; skip; replace hW := Lib.hid hW; go_simp; try rfl
            case z26 =>
            simp only [Act.put, List.setIfInBounds_toArray, List.set_cons_succ, List.set_cons_zero, List.getElem_toArray, List.getElem_cons_zero, List.getElem_cons_succ]
            refine hl_take ?v27 rfl (by kernel_rfl) ?y27 ?z27
            case y27 => intro W hW; change Sep W _ at hW; have x0 := (hW.vec_cell hx0.out).1; have x1 := (hW.vec_cell hx1.out).1; have y0 := ((hW.tail.gold.cell (p := ⟨b, off + i * 2, none⟩) hb)).trans c0; have y1 := ((hW.tail.gold.cell (p := ⟨b, off + i * 2 + 1, none⟩) hb)).trans c1; replace hW := Lib.hid hW; go_simp; try rfl
            case z27 =>
            simp only [Act.put, List.setIfInBounds_toArray, List.set_cons_succ, List.set_cons_zero, List.getElem_toArray, List.getElem_cons_zero, List.getElem_cons_succ]
            refine hl_one rfl (by kernel_rfl) (fun K hK => ?_)
            go_simp
            refine (hless.out wd).mono ?_
            rintro e w3 ⟨rfl, q⟩
            replace hS := Lib.hid (show Sep w3 [vec 30 2 (.slice (some ⟨g, 0, none⟩) n co) n (O.flatMap Ed.cells), old w] from hS.out.below q)
            clear q
            refine hK.out _ _ hS.out ?_
            clear hK K
            try simp only [Act.put, List.setIfInBounds_toArray, List.set_cons_succ, List.set_cons_zero, List.getElem_toArray, List.getElem_cons_zero, List.getElem_cons_succ]
            refine hl_take ?v28 rfl (by kernel_rfl) ?y28 ?z28
            case y28 => intro W hW; skip; replace hW := Lib.hid hW; go_simp; try rfl
            case z28 =>
            simp only [Act.put, List.setIfInBounds_toArray, List.set_cons_succ, List.set_cons_zero, List.getElem_toArray, List.getElem_cons_zero, List.getElem_cons_succ]
            refine hl_done ?_
            clear hV
            replace hV := hS
            clear hS
            go_wp2_with fail
            go_roundg (n - (k + 1))
            case measure => omega
            case rel => exact ⟨k + 1, by omega, rfl, by go_num, Lib.hid (by
              intro y hy
              rw [hkt.out, List.mem_append, List.mem_singleton] at hy
              rcases hy with hy | rfl
              · exact hlow.out y hy
              · exact hbb), hV⟩
          | false =>
            rw [hbb] at hless
            have hkS := Lib.hid (kS_eq O ⟨ef, et⟩ k (by rw [hOn.out]; exact hk) hlow.out (fun y hy => by rw [hkx.out] at hy; injection hy with hy; rw [← hy]; exact hbb))
            go_wp2_with fail
            have hS := Lib.hid (show (fun W : World => Sep W [vec 30 2 (.slice (some ⟨g, 0, none⟩) n co) n (O.flatMap Ed.cells), old w]) _ from hV.out.drew)
            refine hl_begin (fun W : World => Sep W [vec 30 2 (.slice (some ⟨g, 0, none⟩) n co) n (O.flatMap Ed.cells), old w]) [(0, true), (1, true), (2, true), (3, true), (4, true), (5, true), (6, true), (7, true), (8, true), (9, true), (10, true), (11, true), (12, true), (13, false), (14, true)] (by kernel_rfl) (by kernel_rfl) (by kernel_rfl) rfl (fun _ _ _ _ _ h => h) hS.out ?_
            change HL _ _ _ _ _ _ (World.drew _)
            generalize World.drew _ = wd at *
            refine hl_take ?v29 rfl (by kernel_rfl) ?y29 ?z29
            case y29 => intro W hW; skip; replace hW := Lib.hid hW; go_simp; try rfl
            case z29 =>
            simp only [Act.put, List.setIfInBounds_toArray, List.set_cons_succ, List.set_cons_zero, List.getElem_toArray, List.getElem_cons_zero, List.getElem_cons_succ]
            refine hl_take ?v30 rfl (by kernel_rfl) ?y30 ?z30
            case y30 => intro W hW; skip; replace hW := Lib.hid hW; go_simp; try rfl
            case z30 =>
            simp only [Act.put, List.setIfInBounds_toArray, List.set_cons_succ, List.set_cons_zero, List.getElem_toArray, List.getElem_cons_zero, List.getElem_cons_succ]
            refine hl_take ?v31 rfl (by kernel_rfl) ?y31 ?z31
            case y31 => intro W hW; skip; replace hW := Lib.hid hW; go_simp; try rfl
            case z31 =>
            simp only [Act.put, List.setIfInBounds_toArray, List.set_cons_succ, List.set_cons_zero, List.getElem_toArray, List.getElem_cons_zero, List.getElem_cons_succ]
            refine hl_take ?v32 rfl (by kernel_rfl) ?y32 ?z32
            case y32 => intro W hW; skip; replace hW := Lib.hid hW; go_simp; try rfl
            case z32 =>
            simp only [Act.put, List.setIfInBounds_toArray, List.set_cons_succ, List.set_cons_zero, List.getElem_toArray, List.getElem_cons_zero, List.getElem_cons_succ]
            refine hl_take ?v33 rfl (by kernel_rfl) ?y33 ?z33
            case y33 => intro W hW; skip; replace hW := Lib.hid hW; go_simp; try rfl
            case z33 =>
            simp only [Act.put, List.setIfInBounds_toArray, List.set_cons_succ, List.set_cons_zero, List.getElem_toArray, List.getElem_cons_zero, List.getElem_cons_succ]
            refine hl_take ?v34 rfl (by kernel_rfl) ?y34 ?z34
            case y34 => intro W hW; skip; replace hW := Lib.hid hW; go_simp; try rfl
            case z34 =>
            simp only [Act.put, List.setIfInBounds_toArray, List.set_cons_succ, List.set_cons_zero, List.getElem_toArray, List.getElem_cons_zero, List.getElem_cons_succ]
            refine hl_take ?v35 rfl (by kernel_rfl) ?y35 ?z35
            case y35 => intro W hW; skip; replace hW := Lib.hid hW; go_simp; try rfl
            case z35 =>
            simp only [Act.put, List.setIfInBounds_toArray, List.set_cons_succ, List.set_cons_zero, List.getElem_toArray, List.getElem_cons_zero, List.getElem_cons_succ]
            refine hl_take ?v36 rfl (by kernel_rfl) ?y36 ?z36
            case y36 => intro W hW; skip; replace hW := Lib.hid hW; go_simp; try rfl
            case z36 =>
            simp only [Act.put, List.setIfInBounds_toArray, List.set_cons_succ, List.set_cons_zero, List.getElem_toArray, List.getElem_cons_zero, List.getElem_cons_succ]
            refine hl_take ?v37 rfl (by kernel_rfl) ?y37 ?z37
            case y37 => intro W hW; change Sep W _ at hW; have x0 := (hW.vec_cell hx0.out).1; have x1 := (hW.vec_cell hx1.out).1; have y0 := ((hW.tail.gold.cell (p := ⟨b, off + i * 2, none⟩) hb)).trans c0; have y1 := ((hW.tail.gold.cell (p := ⟨b, off + i * 2 + 1, none⟩) hb)).trans c1; replace hW := Lib.hid hW; go_simp; try rfl
            case z37 =>
            simp only [Act.put, List.setIfInBounds_toArray, List.set_cons_succ, List.set_cons_zero, List.getElem_toArray, List.getElem_cons_zero, List.getElem_cons_succ]
            refine hl_take ?v38 rfl (by kernel_rfl) ?y38 ?z38
            case y38 => intro W hW; skip; replace hW := Lib.hid hW; go_simp; try rfl
            case z38 =>
            simp only [Act.put, List.setIfInBounds_toArray, List.set_cons_succ, List.set_cons_zero, List.getElem_toArray, List.getElem_cons_zero, List.getElem_cons_succ]
            refine hl_take ?v39 rfl (by kernel_rfl) ?y39 ?z39
            case y39 => intro W hW; skip; replace hW := Lib.hid hW; go_simp; try rfl
            case z39 =>
            simp only [Act.put, List.setIfInBounds_toArray, List.set_cons_succ, List.set_cons_zero, List.getElem_toArray, List.getElem_cons_zero, List.getElem_cons_succ]
            refine hl_take ?v40 rfl (by kernel_rfl) ?y40 ?z40
            case y40 => intro W hW; skip; replace hW := Lib.hid hW; go_simp; try rfl
            case z40 =>
            simp only [Act.put, List.setIfInBounds_toArray, List.set_cons_succ, List.set_cons_zero, List.getElem_toArray, List.getElem_cons_zero, List.getElem_cons_succ]
            refine hl_take ?v41 rfl (by kernel_rfl) ?y41 ?z41
            case y41 => intro W hW; change Sep W _ at hW; have x0 := (hW.vec_cell hx0.out).1; have x1 := (hW.vec_cell hx1.out).1; have y0 := ((hW.tail.gold.cell (p := ⟨b, off + i * 2, none⟩) hb)).trans c0; have y1 := ((hW.tail.gold.cell (p := ⟨b, off + i * 2 + 1, none⟩) hb)).trans c1; replace hW := Lib.hid hW; go_simp; try rfl
            case z41 =>
            simp only [Act.put, List.setIfInBounds_toArray, List.set_cons_succ, List.set_cons_zero, List.getElem_toArray, List.getElem_cons_zero, List.getElem_cons_succ]
            refine hl_one rfl (by kernel_rfl) (fun K hK => ?_)
            go_simp
            refine (hless.out wd).mono ?_
            rintro e w3 ⟨rfl, q⟩
            replace hS := Lib.hid (show Sep w3 [vec 30 2 (.slice (some ⟨g, 0, none⟩) n co) n (O.flatMap Ed.cells), old w] from hS.out.below q)
            clear q
            refine hK.out _ _ hS.out ?_
            clear hK K
            try simp only [Act.put, List.setIfInBounds_toArray, List.set_cons_succ, List.set_cons_zero, List.getElem_toArray, List.getElem_cons_zero, List.getElem_cons_succ]
            refine hl_take ?v42 rfl (by kernel_rfl) ?y42 ?z42
            case y42 => intro W hW; skip; replace hW := Lib.hid hW; go_simp; try rfl
            case z42 =>
            simp only [Act.put, List.setIfInBounds_toArray, List.set_cons_succ, List.set_cons_zero, List.getElem_toArray, List.getElem_cons_zero, List.getElem_cons_succ]
            refine hl_done ?_
            clear hV
            replace hV := hS
            clear hS
            go_wp2_with fail
            have x0 := (hV.out.vec_cell hx0.out).1
            have x1 := (hV.out.vec_cell hx1.out).1
            have y0 := ((hV.out.tail.gold.cell (p := ⟨b, off + i * 2, none⟩) hb)).trans c0
            have y1 := ((hV.out.tail.gold.cell (p := ⟨b, off + i * 2 + 1, none⟩) hb)).trans c1
            have hqe := fun W => run_eql_ed xf ef xt et W
            rw [eqB_ed_iff] at hqe
            have hco := hV.out.vec_rl.2
            have hkco : ¬ co = k := by obtain ⟨_, _, hv, hc, _⟩ := hco; injection hv with _ _ e3; omega
            have hkc2 : k ≤ co := by obtain ⟨_, _, hv, hc, _⟩ := hco; injection hv with _ _ e3; omega
            clear hco
            by_cases heq : xf = ef ∧ xt = et
            · rw [decide_eq_true heq] at hqe
              have hins := Lib.hid (show insS O ⟨ef, et⟩ = O by unfold insS; rw [hkS.out, hkx.out, heq.1, heq.2, if_pos rfl])
              clear heq
              go_wp2_with fail
              go_quiet (fail)
              go_wp2_with fail
              go_roundg (n0 - (i + 1))
              case measure => omega
              case rel => exact ⟨i + 1, O, some ⟨g, 0, none⟩, co, n, by omega, rfl, rfl, by go_num, Lib.hid (by rw [hO2.out, hins.out]), hOn, by omega, fun h => absurd h (by omega), Lib.hid (hV.out.drewN _)⟩
            · have hins := Lib.hid (show insS O ⟨ef, et⟩ = O.take k ++ [⟨ef, et⟩] ++ O.drop k by
                unfold insS
                rw [hkS.out, if_neg]
                rw [hkx.out]
                intro h
                injection h with h
                injection h with h1 h2
                exact heq ⟨h1, h2⟩)
              rw [decide_eq_false heq] at hqe
              clear heq
              go_wp2_with fail
              go_quiet (fail)
              go_wp2_with (at_builtin; first | (refine wpList_append_sep ((fresh_ed _).graft (hV.out.drewN _)) rfl _ _ 23 rfl i0 _ 16 Tryz.underlying23 hi0 hz0 hz1 hz2 rfl (by decide) rfl k ((O.take k).flatMap Ed.cells) (src_take ((fresh_ed _).graft (hV.out.drewN _)).to1 hOn.out hk) (h1d.out _) (by simp only [maxLen]; omega) (by omega) ?_; intro na1 nc1 w4 q4; simp only [Nat.zero_add, List.nil_append] at q4; have t0 := (q4.tail.tail.gold.cell (p := ⟨b, off + i * 2, none⟩) hb).trans c0; have t1 := (q4.tail.tail.gold.cell (p := ⟨b, off + i * 2 + 1, none⟩) hb).trans c1; replace q4 := Lib.hid q4) | (refine wpList_append_sep (q4.out.allocG _) rfl _ _ 23 rfl i0 _ 16 Tryz.underlying23 hi0 hz0 hz1 hz2 rfl (by decide) rfl 1 [.int .i64 ef, .int .i64 et] (srcA_cells _ _ _ _ 2 rfl) (h1c.out _ _) (by simp only [maxLen]; omega) (by omega) ?_; intro na2 nc2 w5 q5; replace q5 := Lib.hid q5) | (refine wpList_append_sep q5.out rfl _ _ 23 rfl i0 _ 16 Tryz.underlying23 hi0 hz0 hz1 hz2 rfl (by decide) rfl (n - k) ((O.drop k).flatMap Ed.cells) (src_drop q5.out.to1 hOn.out hk) (h1d.out _) (by simp only [maxLen]; omega) (by omega) ?_; intro na3 nc3 w6 q6; replace q6 := Lib.hid q6))
              go_roundg (n0 - (i + 1))
              case measure => omega
              case rel => exact ⟨i + 1, insS O ⟨ef, et⟩, na3, nc3, k + 1 + (n - k), by omega, rfl, by simp, by go_num, Lib.hid hO2.out.symm, Lib.hid (by rw [hins.out]; simp [hOn.out]; omega), by omega, fun h => absurd h (by omega), Lib.hid (by have h := q6.out.drop1; rw [hins.out, List.flatMap_append, List.flatMap_append]; exact h)⟩
        · obtain rfl : k = n := by omega
          have hOt := Lib.hid (show O.take k = O by rw [← hOn.out, List.take_length])
          rw [hOt.out] at hlow
          have hins := Lib.hid (show insS O ⟨ef, et⟩ = O ++ [⟨ef, et⟩] by
            have hkS := kS_eq O ⟨ef, et⟩ k (by rw [hOn.out]; exact Nat.le_refl _) (by rw [hOt.out]; exact hlow.out) (fun y hy => by rw [List.getElem?_eq_none (by rw [hOn.out]; exact Nat.le_refl _)] at hy; cases hy)
            unfold insS
            rw [hkS, if_neg (by rw [List.getElem?_eq_none (by rw [hOn.out]; exact Nat.le_refl _)]; simp), hOt.out, List.drop_eq_nil_of_le (by rw [hOn.out]; exact Nat.le_refl _), List.append_nil])
          have kd : decide ((k : Int) < (k : Int)) = false := by simp
          have hco := hV.out.vec_rl.2
          have hkc2 : k ≤ co := by obtain ⟨_, _, hv, hc, _⟩ := hco; injection hv with _ _ e3; omega
          clear hco
          by_cases hk0 : k = 0
          · subst hk0
            obtain ⟨rfl, rfl⟩ := hnil rfl
            go_wp2_with fail
            go_quiet (fail)
            go_wp2_with fail
            go_quiet (fail)
            go_wp2_with (at_builtin; first | (refine wpList_append_sep ((fresh_ed _).graft (hV.out.drewN _)) rfl _ _ 23 rfl i0 _ 16 Tryz.underlying23 hi0 hz0 hz1 hz2 rfl (by decide) rfl 0 ((O.take 0).flatMap Ed.cells) (src_take ((fresh_ed _).graft (hV.out.drewN _)).to1 hOn.out (Nat.le_refl _)) (h1d.out _) (by simp only [maxLen]; omega) (by omega) ?_; intro na1 nc1 w4 q4; simp only [Nat.zero_add, List.nil_append] at q4; have t0 := (q4.tail.tail.gold.cell (p := ⟨b, off + i * 2, none⟩) hb).trans c0; have t1 := (q4.tail.tail.gold.cell (p := ⟨b, off + i * 2 + 1, none⟩) hb).trans c1; replace q4 := Lib.hid q4) | (refine wpList_append_sep (q4.out.allocG _) rfl _ _ 23 rfl i0 _ 16 Tryz.underlying23 hi0 hz0 hz1 hz2 rfl (by decide) rfl 1 [.int .i64 ef, .int .i64 et] (srcA_cells _ _ _ _ 2 rfl) (h1c.out _ _) (by simp only [maxLen]; omega) (by omega) ?_; intro na2 nc2 w5 q5; (try simp only [Nat.zero_add] at q5); replace q5 := Lib.hid q5) | (refine wpList_append_sep q5.out rfl _ _ 23 rfl i0 _ 16 Tryz.underlying23 hi0 hz0 hz1 hz2 rfl (by decide) rfl 0 [] (.inl ⟨rfl, rfl, rfl⟩) (by simp) (by simp only [maxLen]; omega) (by omega) ?_; intro na3 nc3 w6 q6; (try simp only [Nat.add_zero, List.append_nil] at q6); replace q6 := Lib.hid q6))
            go_roundg (n0 - (i + 1))
            case measure => omega
            case rel => exact ⟨i + 1, insS O ⟨ef, et⟩, na3, nc3, 1, by omega, rfl, by simp, by go_num, Lib.hid hO2.out.symm, Lib.hid (by rw [hins.out]; simp [hOn.out]), by omega, fun h => absurd h (by omega), Lib.hid (by have h := q6.out.drop1; rw [hins.out, List.flatMap_append]; rw [hOt.out] at h; exact h)⟩
          · obtain ⟨g, cap, cur, hgv, _⟩ := hV.out.gvec.2.resolve_left (by rintro ⟨_, h⟩; omega)
            injection hgv with e1 _ e3
            subst e1 e3
            have hk3 : ¬ (k : Int) = 0 := by omega
            by_cases hcc : co = k
            · subst hcc
              go_wp2_with fail
              go_quiet (fail)
              go_wp2_with fail
              go_quiet (fail)
              go_wp2_with (at_builtin; first | (refine wpList_append_sep ((fresh_ed _).graft (hV.out.drewN _)) rfl _ _ 23 rfl i0 _ 16 Tryz.underlying23 hi0 hz0 hz1 hz2 rfl (by decide) rfl co ((O.take co).flatMap Ed.cells) (src_take ((fresh_ed _).graft (hV.out.drewN _)).to1 hOn.out (Nat.le_refl _)) (h1d.out _) (by simp only [maxLen]; omega) (by omega) ?_; intro na1 nc1 w4 q4; simp only [Nat.zero_add, List.nil_append] at q4; have t0 := (q4.tail.tail.gold.cell (p := ⟨b, off + i * 2, none⟩) hb).trans c0; have t1 := (q4.tail.tail.gold.cell (p := ⟨b, off + i * 2 + 1, none⟩) hb).trans c1; replace q4 := Lib.hid q4) | (refine wpList_append_sep (q4.out.allocG _) rfl _ _ 23 rfl i0 _ 16 Tryz.underlying23 hi0 hz0 hz1 hz2 rfl (by decide) rfl 1 [.int .i64 ef, .int .i64 et] (srcA_cells _ _ _ _ 2 rfl) (h1c.out _ _) (by simp only [maxLen]; omega) (by omega) ?_; intro na2 nc2 w5 q5; (try simp only [Nat.zero_add] at q5); replace q5 := Lib.hid q5) | (refine wpList_append_sep q5.out rfl _ _ 23 rfl i0 _ 16 Tryz.underlying23 hi0 hz0 hz1 hz2 rfl (by decide) rfl 0 [] (.inr ⟨_, _, rfl, rfl, fun j u hj => by simp at hj⟩) (by simp) (by simp only [maxLen]; omega) (by omega) ?_; intro na3 nc3 w6 q6; (try simp only [Nat.add_zero, List.append_nil] at q6); replace q6 := Lib.hid q6))
              go_roundg (n0 - (i + 1))
              case measure => omega
              case rel => exact ⟨i + 1, insS O ⟨ef, et⟩, na3, nc3, co + 1, by omega, rfl, by simp, by go_num, Lib.hid hO2.out.symm, Lib.hid (by rw [hins.out]; simp [hOn.out]), by omega, fun h => absurd h (by omega), Lib.hid (by have h := q6.out.drop1; rw [hins.out, List.flatMap_append]; rw [hOt.out] at h; exact h)⟩
            · go_wp2_with fail
              go_quiet (fail)
              go_wp2_with fail
              go_quiet (fail)
              go_wp2_with (at_builtin; first | (refine wpList_append_sep ((fresh_ed _).graft (hV.out.drewN _)) rfl _ _ 23 rfl i0 _ 16 Tryz.underlying23 hi0 hz0 hz1 hz2 rfl (by decide) rfl k ((O.take k).flatMap Ed.cells) (src_take ((fresh_ed _).graft (hV.out.drewN _)).to1 hOn.out (Nat.le_refl _)) (h1d.out _) (by simp only [maxLen]; omega) (by omega) ?_; intro na1 nc1 w4 q4; simp only [Nat.zero_add, List.nil_append] at q4; have t0 := (q4.tail.tail.gold.cell (p := ⟨b, off + i * 2, none⟩) hb).trans c0; have t1 := (q4.tail.tail.gold.cell (p := ⟨b, off + i * 2 + 1, none⟩) hb).trans c1; replace q4 := Lib.hid q4) | (refine wpList_append_sep (q4.out.allocG _) rfl _ _ 23 rfl i0 _ 16 Tryz.underlying23 hi0 hz0 hz1 hz2 rfl (by decide) rfl 1 [.int .i64 ef, .int .i64 et] (srcA_cells _ _ _ _ 2 rfl) (h1c.out _ _) (by simp only [maxLen]; omega) (by omega) ?_; intro na2 nc2 w5 q5; (try simp only [Nat.zero_add] at q5); replace q5 := Lib.hid q5) | (refine wpList_append_sep q5.out rfl _ _ 23 rfl i0 _ 16 Tryz.underlying23 hi0 hz0 hz1 hz2 rfl (by decide) rfl 0 [] (.inr ⟨_, _, rfl, rfl, fun j u hj => by simp at hj⟩) (by simp) (by simp only [maxLen]; omega) (by omega) ?_; intro na3 nc3 w6 q6; (try simp only [Nat.add_zero, List.append_nil] at q6); replace q6 := Lib.hid q6))
              go_roundg (n0 - (i + 1))
              case measure => omega
              case rel => exact ⟨i + 1, insS O ⟨ef, et⟩, na3, nc3, k + 1, by omega, rfl, by simp, by go_num, Lib.hid hO2.out.symm, Lib.hid (by rw [hins.out]; simp [hOn.out]), by omega, fun h => absurd h (by omega), Lib.hid (by have h := q6.out.drop1; rw [hins.out, List.flatMap_append]; rw [hOt.out] at h; exact h)⟩
    · have hin : i = n0 := by omega
      subst hin
      have hfn : O = sdE L := by
        rw [hO.out, ← hfin.out, ← hn0.out, List.take_length]
      subst hfn
      have hOn2 := hOn.out
      subst hOn2
      go_wp2_with fail
      go_ret
      exact ⟨ao, co, rfl, hV.out⟩
end Go.Proofs.YtcnkmhfcgkbhbaaGreat
