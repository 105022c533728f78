/-
  Contracts and plain laws that the walk leans on, part 13. No condition.
-/
import Derived.Test.YtcnkmhfcgkbhbaaZHd12
namespace Go.Proofs.Ytcnkmhfcgkbhbaa
open Go.RowKit Go.Shelf Go.Sort
/-- Of two numbers the first one that is not 0. -/
theorem or2_any (x y : Int) (g c : Nat) (w : World) (hx : w.cell? ⟨g, 0, none⟩ = some (.int .i64 x)) (hy : w.cell? ⟨g, 1, none⟩ = some (.int .i64 y)) :
    Calls Try.prog 58 #[.slice (some ⟨g, 0, none⟩) 2 c] w fun e w' => e = .returned (.int .i64 (if x ≠ 0 then x else y)) ∧ w' = w := by
  by_cases h : x = 0
  · subst h
    rw [if_neg (by simp)]
    by_cases h2 : y = 0
    · subst h2
      go_enter Try.func58, Try.ntmps58
      go_wp2_with fail
      go_loopw [8] (fun i wr => ∃ k : Nat, k ≤ 2 ∧ i = .int .i64 k ∧ wr = w) (fun i _ => 2 - (intOf i).toNat)
      case atStart => exact ⟨0, by omega, rfl, rfl⟩
      case round =>
        obtain ⟨k, hk, rfl, rfl⟩ := hrel
        have : k = 0 ∨ k = 1 ∨ k = 2 := by omega
        rcases this with rfl | rfl | rfl
        · go_wp2_with fail
          go_roundw
          case rel => exact ⟨1, by omega, by go_num, by first | rfl | trivial⟩
          case measure => simp [intOf]
        · go_wp2_with fail
          go_roundw
          case rel => exact ⟨2, by omega, by go_num, by first | rfl | trivial⟩
          case measure => simp [intOf]
        · go_wp2_with fail
          go_ret
          exact ⟨rfl, rfl⟩
    · have h2' : (y != 0) = true := by simpa using h2
      go_enter Try.func58, Try.ntmps58
      go_wp2_with fail
      go_loopw [8] (fun i wr => ∃ k : Nat, k ≤ 1 ∧ i = .int .i64 k ∧ wr = w) (fun i _ => 2 - (intOf i).toNat)
      case atStart => exact ⟨0, by omega, rfl, rfl⟩
      case round =>
        obtain ⟨k, hk, rfl, rfl⟩ := hrel
        have : k = 0 ∨ k = 1 := by omega
        rcases this with rfl | rfl
        · go_wp2_with fail
          go_roundw
          case rel => exact ⟨1, by omega, by go_num, by first | rfl | trivial⟩
          case measure => simp [intOf]
        · go_wp2_with fail
          go_ret
          exact ⟨rfl, rfl⟩
  · rw [if_pos h]
    have h' : (x != 0) = true := by simpa using h
    go_enter Try.func58, Try.ntmps58
    go_wp2_with fail
    go_loopw [8] (fun i wr => i = .int .i64 0 ∧ wr = w) (fun i _ => 2 - (intOf i).toNat)
    case atStart => exact ⟨rfl, rfl⟩
    case round =>
      obtain ⟨rfl, rfl⟩ := hrel
      go_wp2_with fail
      go_ret
      exact ⟨rfl, rfl⟩
/-- What the sort's worlds are: draws, and new blocks. -/
theorem sgrow_alloc {w w' : World} (h : ∃ q os, w' = grow (w.drewN q) os) (o : Obj) : ∃ q os, w'.alloc o = grow (w.drewN q) os := by
  obtain ⟨q, os, rfl⟩ := h
  exact ⟨q, os ++ #[o], by rw [alloc_eq_grow, grow_grow]⟩
theorem sgrow_drew {w w' : World} (h : ∃ q os, w' = grow (w.drewN q) os) : ∃ q os, w'.drew = grow (w.drewN q) os := by
  obtain ⟨q, os, rfl⟩ := h
  exact ⟨q + 1, os, rfl⟩
/-- How edges compare. -/
def cmpE (a b : Ed) : Int := if Lib.compareInt a.from_ b.from_ ≠ 0 then Lib.compareInt a.from_ b.from_ else Lib.compareInt a.tgt b.tgt
theorem box2e (w : World) (b0 b1 : Array Value) : Sep ((w.alloc (.cells b0 41)).alloc (.cells b1 41)) [blk (w.heap.size + 1) 41 b1, blk w.heap.size 41 b0, old w] := by
  have := ((Sep.start w).alloc b0 41).alloc b1 41
  rw [World.size_alloc] at this
  exact this
set_option maxHeartbeats 1000000 in
theorem compareE_any (a b : Ed) (W : World) : Calls Try.prog 41 #[val_ed a, val_ed b] W fun e w' => e = .returned (.int .i64 (cmpE a b)) ∧ ∃ q os', w' = grow (W.drewN q) os' := by
  obtain ⟨af, at_⟩ := a
  obtain ⟨bf, bt⟩ := b
  unfold cmpE val_ed
  have H1 := Lib.hid (fun V => compareI_any af bf V)
  have H2 := Lib.hid (fun V => compareI_any at_ bt V)
  simp only
  generalize Lib.compareInt af bf = c1 at *
  generalize Lib.compareInt at_ bt = c2 at *
  obtain ⟨R, hR⟩ : ∃ R, (if c1 ≠ 0 then c1 else c2) = R := ⟨_, rfl⟩
  have HO := Lib.hid (show ∀ (g c : Nat) (w : World), w.cell? ⟨g, 0, none⟩ = some (.int .i64 c1) → w.cell? ⟨g, 1, none⟩ = some (.int .i64 c2) → Calls Try.prog 58 #[.slice (some ⟨g, 0, none⟩) 2 c] w fun e w' => e = .returned (.int .i64 R) ∧ w' = w from fun g c w h1 h2 => by rw [← hR]; exact or2_any c1 c2 g c w h1 h2)
  rw [hR]
  clear hR
  have hB := Lib.hid (box2e W #[.int .i64 af, .int .i64 at_] #[.int .i64 bf, .int .i64 bt])
  have hG := Lib.hid (sgrow_drew (sgrow_alloc (sgrow_alloc (⟨0, #[], (grow_empty _).symm⟩ : ∃ q os, W = grow (W.drewN q) os) (.cells #[.int .i64 af, .int .i64 at_] 41)) (.cells #[.int .i64 bf, .int .i64 bt] 41)))
  go_enter Try.func41, Try.ntmps41
  go_wp2_with fail
  have hS := Lib.hid (show (fun V : World => Sep V [blk (W.heap.size + 1) 41 #[.int .i64 bf, .int .i64 bt], blk W.heap.size 41 #[.int .i64 af, .int .i64 at_], old W]) _ from hB.out.drew)
  refine hl_begin (fun V : World => Sep V [blk (W.heap.size + 1) 41 #[.int .i64 bf, .int .i64 bt], blk W.heap.size 41 #[.int .i64 af, .int .i64 at_], old W]) [(0, true), (1, true), (2, true), (3, true), (5, true), (6, true), (7, true), (8, true), (4, false), (9, false), (10, false), (11, false), (12, true)] (by kernel_rfl) (by kernel_rfl) (by kernel_rfl) rfl (fun _ _ _ _ _ h => h) hS.out ?_
  change HL _ _ _ _ _ _ (World.drew _)
  generalize World.drew _ = wd at *
  refine hl_take ?v1 rfl (by kernel_rfl) ?y1 ?z1
  case y1 => intro W hW; skip; replace hW := Lib.hid hW; go_simp; try rfl
  case z1 =>
  simp only [Act.put, List.setIfInBounds_toArray, List.set_cons_succ, List.set_cons_zero, List.getElem_toArray, List.getElem_cons_zero, List.getElem_cons_succ]
  refine hl_take ?v2 rfl (by kernel_rfl) ?y2 ?z2
  case y2 => intro W hW; obtain ⟨_, c0, c1, _⟩ := (show Sep _ _ from hW).b2; obtain ⟨_, d0, d1, _⟩ := (show Sep _ _ from hW).to1.b2; replace hW := Lib.hid hW; go_simp; try rfl
  case z2 =>
  simp only [Act.put, List.setIfInBounds_toArray, List.set_cons_succ, List.set_cons_zero, List.getElem_toArray, List.getElem_cons_zero, List.getElem_cons_succ]
  refine hl_take ?v3 rfl (by kernel_rfl) ?y3 ?z3
  case y3 => intro W hW; skip; replace hW := Lib.hid hW; go_simp; try rfl
  case z3 =>
  simp only [Act.put, List.setIfInBounds_toArray, List.set_cons_succ, List.set_cons_zero, List.getElem_toArray, List.getElem_cons_zero, List.getElem_cons_succ]
  refine hl_take ?v4 rfl (by kernel_rfl) ?y4 ?z4
  case y4 => intro W hW; obtain ⟨_, c0, c1, _⟩ := (show Sep _ _ from hW).b2; obtain ⟨_, d0, d1, _⟩ := (show Sep _ _ from hW).to1.b2; replace hW := Lib.hid hW; go_simp; try rfl
  case z4 =>
  simp only [Act.put, List.setIfInBounds_toArray, List.set_cons_succ, List.set_cons_zero, List.getElem_toArray, List.getElem_cons_zero, List.getElem_cons_succ]
  refine hl_take ?v5 rfl (by kernel_rfl) ?y5 ?z5
  case y5 => intro W hW; skip; replace hW := Lib.hid hW; go_simp; try rfl
  case z5 =>
  simp only [Act.put, List.setIfInBounds_toArray, List.set_cons_succ, List.set_cons_zero, List.getElem_toArray, List.getElem_cons_zero, List.getElem_cons_succ]
  refine hl_take ?v6 rfl (by kernel_rfl) ?y6 ?z6
  case y6 => intro W hW; obtain ⟨_, c0, c1, _⟩ := (show Sep _ _ from hW).b2; obtain ⟨_, d0, d1, _⟩ := (show Sep _ _ from hW).to1.b2; replace hW := Lib.hid hW; go_simp; try rfl
  case z6 =>
  simp only [Act.put, List.setIfInBounds_toArray, List.set_cons_succ, List.set_cons_zero, List.getElem_toArray, List.getElem_cons_zero, List.getElem_cons_succ]
  refine hl_take ?v7 rfl (by kernel_rfl) ?y7 ?z7
  case y7 => intro W hW; skip; replace hW := Lib.hid hW; go_simp; try rfl
  case z7 =>
  simp only [Act.put, List.setIfInBounds_toArray, List.set_cons_succ, List.set_cons_zero, List.getElem_toArray, List.getElem_cons_zero, List.getElem_cons_succ]
  refine hl_take ?v8 rfl (by kernel_rfl) ?y8 ?z8
  case y8 => intro W hW; obtain ⟨_, c0, c1, _⟩ := (show Sep _ _ from hW).b2; obtain ⟨_, d0, d1, _⟩ := (show Sep _ _ from hW).to1.b2; replace hW := Lib.hid hW; go_simp; try rfl
  case z8 =>
  simp only [Act.put, List.setIfInBounds_toArray, List.set_cons_succ, List.set_cons_zero, List.getElem_toArray, List.getElem_cons_zero, List.getElem_cons_succ]
  refine hl_one rfl (by kernel_rfl) (fun K hK => ?_)
  go_simp
  refine (H1.out _).mono ?_
  rintro e w1 ⟨rfl, hw⟩
  subst hw
  refine hK.out _ _ hS.out ?_
  clear hK K
  try simp only [Act.put, List.setIfInBounds_toArray, List.set_cons_succ, List.set_cons_zero, List.getElem_toArray, List.getElem_cons_zero, List.getElem_cons_succ]
  refine hl_one rfl (by kernel_rfl) (fun K hK => ?_)
  go_simp
  refine (H2.out _).mono ?_
  rintro e w1 ⟨rfl, hw⟩
  subst hw
  refine hK.out _ _ hS.out ?_
  clear hK K
  try simp only [Act.put, List.setIfInBounds_toArray, List.set_cons_succ, List.set_cons_zero, List.getElem_toArray, List.getElem_cons_zero, List.getElem_cons_succ]
  refine hl_one rfl (by kernel_rfl) (fun K hK => ?_)
  go_simp
  have hN := Lib.hid ((show Sep _ _ from hS.out).alloc #[.int .i64 c1, .int .i64 c2] 3)
  replace hG := Lib.hid (sgrow_alloc hG.out (.cells #[.int .i64 c1, .int .i64 c2] 3))
  replace hS := Lib.hid (show (fun V : World => Sep V [blk (W.heap.size + 1) 41 #[.int .i64 bf, .int .i64 bt], blk W.heap.size 41 #[.int .i64 af, .int .i64 at_], old W]) _ from (show Sep _ _ from hS.out).allocG (.cells #[.int .i64 c1, .int .i64 c2] 3))
  refine hK.out _ _ hS.out ?_
  clear hK K
  try simp only [Act.put, List.setIfInBounds_toArray, List.set_cons_succ, List.set_cons_zero, List.getElem_toArray, List.getElem_cons_zero, List.getElem_cons_succ]
  refine hl_one rfl (by kernel_rfl) (fun K hK => ?_)
  go_simp
  obtain ⟨_, e0, e1, _⟩ := hN.out.b2
  refine (HO.out _ _ _ e0 e1).mono ?_
  rintro e w1 ⟨rfl, hw⟩
  subst hw
  refine hK.out _ _ hS.out ?_
  clear hK K
  try simp only [Act.put, List.setIfInBounds_toArray, List.set_cons_succ, List.set_cons_zero, List.getElem_toArray, List.getElem_cons_zero, List.getElem_cons_succ]
  refine hl_take ?v9 rfl (by kernel_rfl) ?y9 ?z9
  case y9 => intro W hW; skip; replace hW := Lib.hid hW; go_simp; try rfl
  case z9 =>
  simp only [Act.put, List.setIfInBounds_toArray, List.set_cons_succ, List.set_cons_zero, List.getElem_toArray, List.getElem_cons_zero, List.getElem_cons_succ]
  refine hl_done ?_
  skip
  go_wp2_with fail
  go_ret
  exact ⟨rfl, hG.out⟩
theorem compI_lt (x y : Int) : (Lib.compareInt x y < 0) = (x < y) ∧ (Lib.compareInt x y = 0) = (x = y) := by
  unfold Lib.compareInt
  by_cases h1 : x < y
  · simp [h1]; omega
  · by_cases h2 : y < x
    · simp [h1, h2]; omega
    · simp [h1, h2]; omega
def ltE (a b : Ed) : Prop := a.from_ < b.from_ ∨ a.from_ = b.from_ ∧ a.tgt < b.tgt
theorem ltE_iff (a b : Ed) : ltOf cmpE a b = true ↔ ltE a b := by
  unfold ltOf cmpE ltE
  obtain ⟨h1, h2⟩ := compI_lt a.from_ b.from_
  obtain ⟨h3, h4⟩ := compI_lt a.tgt b.tgt
  rw [decide_eq_true_iff]
  by_cases h : Lib.compareInt a.from_ b.from_ = 0
  · rw [if_neg (by simpa using h), h3]
    rw [h2] at h
    constructor
    · exact fun hh => .inr ⟨h, hh⟩
    · rintro (hh | ⟨_, hh⟩)
      · omega
      · exact hh
  · rw [if_pos h, h1]
    rw [h2] at h
    constructor
    · exact .inl
    · rintro (hh | ⟨hh, _⟩)
      · exact hh
      · exact absurd hh h
theorem swo_ed : SWO (ltOf cmpE) := by
  refine ⟨fun x => ?_, fun x y z h1 h2 => ?_, fun x y z h1 h2 => ?_⟩
  · cases h : ltOf cmpE x x with
    | false => rfl
    | true => have := (ltE_iff x x).1 h; unfold ltE at this; omega
  · rw [ltE_iff] at *; unfold ltE at *; omega
  · rw [← Bool.not_eq_true] at *; rw [ltE_iff] at *; unfold ltE at *; omega
theorem eg_cmpE : ∀ args w, (callFunc 41 args).run Try.prog w = .ok (.enter 41 args) w := enters_of Try.func41 (by kernel_rfl) rfl
theorem isAggE : ∀ w, (isAgg 41).run Try.prog w = .ok true w := fun w => by kernel_rfl
theorem sizeOfE : ∀ w, (Go.sizeOf 41).run Try.prog w = .ok 2 w := fun w => by kernel_rfl
def leE (a b : Ed) : Prop := a.from_ < b.from_ ∨ a.from_ = b.from_ ∧ a.tgt ≤ b.tgt
theorem sortEdges_any (a : Option Addr) (n c : Nat) (xs : List Ed) (w : World) (rs : List Res) (hS : Sep w (vec 41 2 (.slice a n c) n (xs.flatMap Ed.cells) :: rs)) (hl : xs.length = n) (hn : n ≤ 1000000) :
    Calls Try.prog 40 #[.slice a n c, .func (.func 41) #[] #[]] w fun e w' => e = .returned (.tuple #[]) ∧ ∃ ys : List Ed, ys.Perm xs ∧ ys.Pairwise leE ∧ Sep w' (vec 41 2 (.slice a n c) n (ys.flatMap Ed.cells) :: rs) := by
  rcases Nat.eq_zero_or_pos n with h0 | h0
  · subst h0
    have hx := List.eq_nil_of_length_eq_zero hl
    subst hx
    refine (AnyF.slices_SortFunc_none Try.sortEdges a c _ w).mono ?_
    rintro e w' ⟨rfl, rfl⟩
    exact ⟨rfl, [], List.Perm.refl _, List.Pairwise.nil, hS⟩
  · obtain ⟨g, rfl⟩ : ∃ g, a = some ⟨g, 0, none⟩ := by
      rcases hS.gvec.2 with ⟨_, h1⟩ | ⟨g, cap, cur, hv, _⟩
      · omega
      · injection hv with e1 _ _
        exact ⟨g, e1⟩
    obtain ⟨hH, hg⟩ := hS.vec_holdsK Ed.cells ed_len xs
    have hcmp : CmpLays Try.prog 41 #[] Ed.cells 2 cmpE g 0 xs.toArray.size w := fun m os dk _ x y => compareE_any x y _
    have hcon := AnyQ.slices_SortFunc Try.sortEdges 2 isAggE sizeOfE Ed.cells ed_len (fun x v hv => by simp [Ed.cells] at hv; rcases hv with rfl | rfl <;> rfl) cmpE swo_ed 41 #[] g 0 c xs.toArray w eg_cmpE hcmp hH hg (by simp; omega)
    rw [show xs.toArray.size = n by simp [hl]] at hcon
    refine Calls.mono (show Calls Try.prog 40 _ w _ from hcon) ?_
    rintro e w' ⟨rfl, d', m, os, hp, hs, rfl⟩
    rw [show n = xs.toArray.size by simp [hl]] at hp hs
    obtain ⟨hsz, hperm⟩ := perm_list hp
    have hsrt := sorted_list hsz hs
    refine ⟨rfl, d'.toList, by simpa using hperm, hsrt.imp (fun {a b} h => ?_), ?_⟩
    · have h2 : ¬ ltE b a := fun hh => by rw [(ltE_iff b a).2 hh] at h; cases h
      unfold ltE at h2
      unfold leE
      omega
    · have := hS.vec_row id m (flatK Ed.cells 2 d') os (by rw [size_flatK, hsz]; simp [hl])
      rw [flatK_list Ed.cells 2 ed_len d', List.map_id] at this
      exact this
end Go.Proofs.Ytcnkmhfcgkbhbaa
namespace Go.Proofs.Ytcnkmhfcgkbhbaa
open Go.RowKit
def kp (l : List Ed) (j : Nat) : Bool := j == 0 || l.getD j default != l.getD (j - 1) default
def ck (l : List Ed) (m : Nat) : List Ed := ((List.range m).filter (kp l)).map fun j => l.getD j default
theorem ck_succ (l : List Ed) (m : Nat) : ck l (m + 1) = ck l m ++ (if kp l m then [l.getD m default] else []) := by
  unfold ck
  rw [List.range_succ, List.filter_append, List.map_append]
  congr 1
  cases h : kp l m <;> simp [h]
theorem ck_len (l : List Ed) (m : Nat) : (ck l m).length ≤ m := by
  unfold ck
  rw [List.length_map]
  exact Nat.le_trans (List.length_filter_le _ _) (by simp)
theorem ck_all (l : List Ed) : ∀ m, m ≤ l.length → (∀ j, j < m → kp l j = true) → ck l m = l.take m
  | 0, _, _ => rfl
  | m + 1, hm, h => by
    rw [ck_succ, h m (by omega), if_pos rfl, ck_all l m (by omega) (fun j hj => h j (by omega)), List.take_succ_eq_append_getElem (by omega)]
    simp [List.getD, show m < l.length by omega]
def cpE (l : List Ed) : List Ed := ck l l.length
set_option maxHeartbeats 4000000 in
set_option maxRecDepth 100000 in
theorem compactE_any (a : Option Addr) (n c : Nat) (xs : List Ed) (w : World) (rs : List Res) (hS : Sep w (vec 41 2 (.slice a n c) n (xs.flatMap Ed.cells) :: rs)) (hl : xs.length = n) (hn : n ≤ 100000) :
    Calls Try.prog 42 #[.slice a n c] w fun e w' => e = .returned (.slice a (cpE xs).length c) ∧ Sep w' (vec 41 2 (.slice a (cpE xs).length c) (cpE xs).length ((cpE xs).flatMap Ed.cells) :: rs) := by
  by_cases h2 : n < 2
  · have hall : cpE xs = xs := by
      unfold cpE
      have h0 : ∀ j, j < xs.length → kp xs j = true := by
        intro j hj
        obtain rfl : j = 0 := by omega
        rfl
      rw [ck_all xs _ (Nat.le_refl _) h0, List.take_length]
    rw [hall]
    have i1 : (n : Int) < 2 := by omega
    subst hl
    replace hS := Lib.hid hS
    clear hall
    go_enter Try.func42, Try.ntmps42
    go_wp2_with fail
    go_ret
    exact ⟨rfl, hS.out⟩
  · have i1 : ¬ (n : Int) < 2 := by omega
    obtain ⟨g, rfl, _, hnc, _, _⟩ := hS.vec_at ed_len hl (show 0 < n by omega)
    obtain ⟨R, hR⟩ : ∃ R, cpE xs = R := ⟨_, rfl⟩
    have hRe := Lib.hid (show ck xs n = R by rw [← hR]; unfold cpE; rw [hl])
    have hRa := Lib.hid (fun (h : ∀ j, j < n → kp xs j = true) => (show R = xs by rw [← hR]; unfold cpE; rw [hl, ck_all xs n (by omega) h, ← hl, List.take_length]))
    rw [hR]
    clear hR
    have hcs := Lib.hid (fun m => ck_succ xs m)
    have hcl0 := Lib.hid (fun m => ck_len xs m)
    have hca := Lib.hid (fun m h1 h2 => ck_all xs m h1 h2)
    replace hl := Lib.hid hl
    replace hS := Lib.hid hS
    have h0 : Hid (∀ j, j < 1 → kp xs j = true) := Lib.hid (by
      intro j hj
      obtain rfl : j = 0 := by omega
      rfl)
    clear h2
    go_enter Try.func42, Try.ntmps42
    go_wp2_with fail
    go_loopw [3] (fun x wr => ∃ k : Nat, 1 ≤ k ∧ k ≤ n ∧ x = .int .i64 k ∧ Hid (∀ j, j < k → kp xs j = true) ∧ Hid (Sep wr (vec 41 2 (.slice (some ⟨g, 0, none⟩) n c) n (xs.flatMap Ed.cells) :: rs))) (fun x _ => n - (intOf x).toNat)
    case atStart => exact ⟨1, by omega, by omega, rfl, h0, hS⟩
    case round =>
      clear hS
      obtain ⟨k, hk1, hk, rfl, hok, hS⟩ := hrel
      by_cases hlt : k < n
      · obtain ⟨p, hkp⟩ : ∃ p, k = p + 1 := ⟨k - 1, by omega⟩
        obtain ⟨g', hg', _, _, zz, _⟩ := hS.out.vec_at ed_len hl.out hlt
        injection hg' with hg'
        injection hg' with hg'
        subst hg'
        obtain ⟨g', hg', _, _, yy, _⟩ := hS.out.vec_at ed_len hl.out (show p < n by omega)
        injection hg' with hg'
        injection hg' with hg'
        subst hg'
        have z0 := zz 0 _ rfl
        have z1 := zz 1 _ rfl
        have y0 := yy 0 _ rfl
        have y1 := yy 1 _ rfl
        simp only [Nat.add_zero] at z0 y0
        have hkk := Lib.hid (show kp xs k = (xs.getD k default != xs.getD p default) by unfold kp; rw [hkp]; rfl)
        have hsub : (k : Int) - 1 = (p : Int) := by omega
        have hsw : IntKind.i64.wrap (p : Int) = (p : Int) := IntWalk.i64_in _ (by omega)
        have i2 : (0 : Int) ≤ (k : Int) := by omega
        have i3 : (k : Int) < (n : Int) := by omega
        have i4 : (0 : Int) ≤ (p : Int) := by omega
        have i5 : (p : Int) < (n : Int) := by omega
        replace hkp := Lib.hid hkp
        clear zz yy
        by_cases heq : xs.getD k default = xs.getD p default
        · have hkf := Lib.hid (show kp xs k = false by rw [hkk.out, heq]; simp)
          rw [heq] at z0 z1
          clear hkk heq
          generalize xs.getD p default = q at *
          obtain ⟨fr, tgt⟩ := q
          simp only at z0 z1 y0 y1
          have heb : eqB_ed fr fr tgt tgt = true := by rw [eqB_ed_iff]; simp
          have hqe := fun W => run_eql_ed fr fr tgt tgt W
          rw [heb] at hqe
          have hkt := Lib.hid (hca.out k (by rw [hl.out]; omega) hok.out)
          have c1 : ¬ c = k := by omega
          have i6 : (k : Int) ≤ (n : Int) := by omega
          have i7 : (n : Int) ≤ (c : Int) := by omega
          clear heb
          go_wp2_with fail
          go_quiet (fail)
          go_wp2_with fail
          replace hS := Lib.hid (hS.out.drewN nq)
          have hinit := Lib.hid (show xs.take k = ck xs (k + 1) by rw [ck_succ, hkf.out, if_neg (by simp), List.append_nil, hkt.out])
          clear z0 z1 y0 y1 hqe hkt hkf
          generalize wr.drewN nq = wr at *
          go_loopg [3, 5] (n - k - 1) (fun gm s3 s5 W => ∃ (m J : Nat) (cur : List Ed), 1 ≤ J ∧ J ≤ n - k ∧ m < k + J ∧ gm = n - k - J ∧ s3 = .int .i64 m ∧ s5 = .int .i64 J ∧ Hid (cur.length = n) ∧ Hid (cur.take m = ck xs (k + J)) ∧ Hid (m = (ck xs (k + J)).length) ∧ Hid (cur.drop (k + J - 1) = xs.drop (k + J - 1)) ∧ Hid (Sep W (vec 41 2 (.slice (some ⟨g, 0, none⟩) n c) n (cur.flatMap Ed.cells) :: rs)))
          case atStart => exact ⟨k, 1, xs, by omega, by omega, by omega, by omega, rfl, rfl, hl, hinit, Lib.hid (by rw [← hinit.out, List.length_take, hl.out]; omega), Lib.hid rfl, hS⟩
          case round =>
            clear hS hinit hok
            obtain ⟨m, J, cur, hJ1, hJ, hmJ, hg, rfl, rfl, hcl, hct, hci, hcd, hS⟩ := hrel
            by_cases hJn : J < n - k
            · obtain ⟨t, hJt⟩ : ∃ t, J = t + 1 := ⟨J - 1, by omega⟩
              have hq1 : cur.getD (k + J) default = xs.getD (k + J) default := by
                have h1 := congrArg (fun x : List Ed => x.getD 1 default) hcd.out
                simpa [List.getD, show k + J - 1 + 1 = k + J by omega] using h1
              have hq0 : cur.getD (k + t) default = xs.getD (k + t) default := by
                have h1 := congrArg (fun x : List Ed => x.getD 0 default) hcd.out
                simpa [List.getD, show k + J - 1 = k + t by omega] using h1
              replace hq1 := Lib.hid hq1
              replace hq0 := Lib.hid hq0
              obtain ⟨g', hg', _, _, zz, _⟩ := hS.out.vec_at ed_len hcl.out (show k + J < n by omega)
              injection hg' with hg'
              injection hg' with hg'
              subst hg'
              obtain ⟨g', hg', _, _, yy, _⟩ := hS.out.vec_at ed_len hcl.out (show k + t < n by omega)
              injection hg' with hg'
              injection hg' with hg'
              subst hg'
              rw [hq1.out] at zz
              rw [hq0.out] at yy
              have z0 := zz 0 _ rfl
              have z1 := zz 1 _ rfl
              have y0 := yy 0 _ rfl
              have y1 := yy 1 _ rfl
              simp only [Nat.add_zero, Nat.add_mul] at z0 y0 z1 y1
              have hkk := Lib.hid (show kp xs (k + J) = (xs.getD (k + J) default != xs.getD (k + t) default) by
                unfold kp
                rw [show k + J - 1 = k + t by omega, show (k + J == 0) = false by rw [beq_eq_false_iff_ne]; omega]
                rfl)
              have hsn := Lib.hid (ck_succ xs (k + J))
              have hcd' := Lib.hid (show cur.drop (k + (J + 1) - 1) = xs.drop (k + (J + 1) - 1) by
                have h := congrArg (List.drop 1) hcd.out
                simp only [List.drop_drop] at h
                rw [show k + (J + 1) - 1 = k + J - 1 + 1 by omega]
                exact h)
              have hsub : (J : Int) - 1 = (t : Int) := by omega
              have hsw : IntKind.i64.wrap (t : Int) = (t : Int) := IntWalk.i64_in _ (by omega)
              have i2 : (0 : Int) ≤ (J : Int) := by omega
              have i3 : (J : Int) < ((n - k : Nat) : Int) := by omega
              have i4 : (0 : Int) ≤ (t : Int) := by omega
              have i5 : (t : Int) < ((n - k : Nat) : Int) := by omega
              replace hJt := Lib.hid hJt
              clear zz yy hcd hq0 hq1
              by_cases heq : xs.getD (k + J) default = xs.getD (k + t) default
              · have hkf := Lib.hid (show kp xs (k + J) = false by rw [hkk.out, heq]; simp)
                rw [hkf.out] at hsn
                simp only [Bool.false_eq_true, if_false, List.append_nil] at hsn
                rw [heq] at z0 z1
                clear hkk heq hkf
                generalize xs.getD (k + t) default = q at *
                obtain ⟨fr, tgt⟩ := q
                simp only at z0 z1 y0 y1
                have heb : eqB_ed fr fr tgt tgt = true := by rw [eqB_ed_iff]; simp
                have hqe := fun W => run_neq_ed fr fr tgt tgt W
                rw [heb] at hqe
                simp only [Bool.not_true] at hqe
                clear heb
                go_wp2_with fail
                go_quiet (fail)
                go_wp2_with fail
                replace hS := Lib.hid (hS.out.drewN nq)
                go_roundg (n - k - (J + 1))
                case measure => omega
                case rel => exact ⟨m, J + 1, cur, by omega, by omega, by omega, rfl, rfl, by go_num, hcl, Lib.hid (by rw [hct.out, ← Nat.add_assoc, hsn.out]), Lib.hid (by rw [← Nat.add_assoc, hsn.out]; exact hci.out), hcd', hS⟩
              · have hkt := Lib.hid (show kp xs (k + J) = true by rw [hkk.out]; simpa using heq)
                rw [hkt.out] at hsn
                simp only [if_true] at hsn
                clear hkk hkt
                generalize xs.getD (k + t) default = q at *
                generalize xs.getD (k + J) default = r at *
                have hput := Lib.hid (fun W (h : Sep W (vec 41 2 (.slice (some ⟨g, 0, none⟩) n c) n (cur.flatMap Ed.cells) :: rs)) => by
                  have h2 := Sep.vec_setN r.cells (m * 2) W _ h (by rw [ed_len, flat_len _ _ ed_len, hcl.out]; omega)
                  rw [flat_put ed_len cur m r (by rw [hcl.out]; omega)] at h2
                  exact h2)
                obtain ⟨fr, tgt⟩ := q
                obtain ⟨gr, so⟩ := r
                simp only at z0 z1 y0 y1
                simp only [Ed.cells, setW, Nat.add_assoc, Nat.reduceAdd] at hput
                obtain ⟨g', hg', hgl2, _, xx, hfz⟩ := hS.out.vec_at ed_len hcl.out (show m < n by omega)
                injection hg' with hg'
                injection hg' with hg'
                subst hg'
                have hcx : ∀ f, f < 2 → ∃ u, wr.cell? ⟨g, m * 2 + f, none⟩ = some u := fun f hf => by
                  obtain ⟨u, hu⟩ : ∃ u, (Ed.cells (cur.getD m default))[f]? = some u := ⟨_, List.getElem?_eq_getElem (by rw [ed_len]; exact hf)⟩
                  exact ⟨u, xx f u hu⟩
                obtain ⟨u0, x0⟩ := hcx 0 (by omega)
                have f0 := hfz (m * 2)
                obtain ⟨u1, x1⟩ := hcx 1 (by omega)
                have f1 := hfz (m * 2 + 1)
                rw [Nat.add_zero] at x0
                have heb : eqB_ed gr fr so tgt = false := by
                  rw [eqB_ed_iff, decide_eq_false_iff_not]
                  rintro ⟨rfl, rfl⟩
                  exact heq rfl
                have hqe := fun W => run_neq_ed gr fr so tgt W
                rw [heb] at hqe
                simp only [Bool.not_false] at hqe
                have i6 : (0 : Int) ≤ (m : Int) := by omega
                have i7 : (m : Int) < (n : Int) := by omega
                clear heb heq hcx hfz xx
                go_wp2_with fail
                go_quiet (fail)
                go_wp2_with fail
                replace hS := Lib.hid (hput.out _ (hS.out.drewN nq))
                clear hput x0 x1 f0 f1
                go_roundg (n - k - (J + 1))
                case measure => omega
                case rel => exact ⟨m + 1, J + 1, cur.set m ⟨gr, so⟩, by omega, by omega, by omega, rfl, by go_num, by go_num, Lib.hid (by rw [List.length_set]; exact hcl.out), Lib.hid (by rw [← Nat.add_assoc, hsn.out, ← hct.out]; exact take_set_snocL cur m _ (by rw [hcl.out]; omega)), Lib.hid (by rw [← Nat.add_assoc, hsn.out, List.length_append, ← hci.out]; rfl), Lib.hid (by rw [List.drop_set_of_lt (by omega)]; exact hcd'.out), hS⟩
            · have hJ' : k + J = n := by omega
              have hJ2 : J = n - k := by omega
              rw [hJ', hRe.out] at hct hci
              have hi3 : m < n := by omega
              obtain ⟨g', hg', _, hmc, _⟩ := hS.out.vec_at ed_len hcl.out hi3
              have j3 : (0 : Int) ≤ (m : Int) := by omega
              have j4 : (m : Int) < (n : Int) := by omega
              have j5 : (m : Int) ≤ (c : Int) := by omega
              clear hg' hJ'
              go_wp2_with (refine wpList_clear_sep hS.out (by kernel_rfl) (.tmp 56) 33 (by rfl) _ Try.underlying33 dzero_ed dsize_ed done_ed m hi3 (c - m) (by rfl) ?_)
              intro w3 ys hS3
              have hS4 := hS3.vec_shrink (k := m) (by omega)
              have hq : ((cur.flatMap Ed.cells).take (m * 2) ++ ys).take (m * 2) = R.flatMap Ed.cells := by
                rw [List.take_append_of_le_length (by rw [List.length_take, flat_len _ _ ed_len, hcl.out]; omega), List.take_take, Nat.min_self, flat_take _ _ ed_len _ _ (by rw [hcl.out]; omega), hct.out]
              rw [hq] at hS4
              replace hS4 := Lib.hid hS4
              clear hS3 hq hS
              go_wp2_with fail
              go_ret
              exact ⟨by rw [← hci.out]; rfl, by rw [← hci.out]; exact hS4.out⟩
        · have hkt := Lib.hid (show kp xs k = true by rw [hkk.out]; simpa using heq)
          have hok2 : Hid (∀ j, j < k + 1 → kp xs j = true) := Lib.hid (by
            intro j hj
            by_cases hjk : j = k
            · subst hjk; exact hkt.out
            · exact hok.out j (by omega))
          clear hkk hkt hok
          generalize xs.getD p default = q at *
          generalize xs.getD k default = r at *
          obtain ⟨fr, tgt⟩ := q
          obtain ⟨gr, so⟩ := r
          simp only at z0 z1 y0 y1
          have heb : eqB_ed gr fr so tgt = false := by
            rw [eqB_ed_iff, decide_eq_false_iff_not]
            rintro ⟨rfl, rfl⟩
            exact heq rfl
          have hqe := fun W => run_eql_ed gr fr so tgt W
          rw [heb] at hqe
          clear heb heq
          go_wp2_with fail
          go_quiet (fail)
          go_wp2_with fail
          go_roundw
          case rel => exact ⟨k + 1, by omega, by omega, by go_num, hok2, Lib.hid (hS.out.drewN _)⟩
          case measure => simp [intOf]; omega
      · have hkn : k = n := by omega
        have hRx : R = xs := hRa.out (fun j hj => hok.out j (by omega))
        subst hRx
        have hl2 := hl.out
        subst hkn
        go_wp2_with fail
        go_ret
        exact ⟨rfl, hS.out⟩
end Go.Proofs.Ytcnkmhfcgkbhbaa
namespace Go.Proofs.Ytcnkmhfcgkbhbaa
open Go.RowKit
def leEB (a b : Ed) : Bool := decide (a.from_ < b.from_ ∨ a.from_ = b.from_ ∧ a.tgt ≤ b.tgt)
theorem leEB_iff (a b : Ed) : leEB a b = true ↔ leE a b := by simp [leEB, leE]
theorem leE_anti (a b : Ed) (h1 : leE a b) (h2 : leE b a) : a = b := by
  obtain ⟨x, y⟩ := a
  obtain ⟨z, t⟩ := b
  simp only [leE] at h1 h2
  simp only [Ed.mk.injEq]
  omega
/-- In order. -/
def srtE (L : List Ed) : List Ed := L.mergeSort leEB
theorem srtE_perm (L : List Ed) : (srtE L).Perm L := List.mergeSort_perm L _
theorem srtE_pw (L : List Ed) : (srtE L).Pairwise leE := by
  have h := List.pairwise_mergeSort (le := leEB) (fun a b c h1 h2 => by
    rw [leEB_iff] at *
    unfold leE at *
    omega) (fun a b => by
    rw [Bool.or_eq_true, leEB_iff, leEB_iff]
    unfold leE
    omega) L
  exact h.imp fun h => (leEB_iff _ _).1 h
theorem srtE_uniq (L ys : List Ed) (hp : ys.Perm L) (hs : ys.Pairwise leE) : ys = srtE L :=
  List.Perm.eq_of_pairwise (le := leE) (fun a b _ _ h1 h2 => leE_anti a b h1 h2) hs (srtE_pw L) (hp.trans (srtE_perm L).symm)
theorem srtE_len (L : List Ed) : (srtE L).length = L.length := (srtE_perm L).length_eq
/-- What Sorted tells. -/
def sdE (L : List Ed) : List Ed := cpE (srtE L)
theorem sdE_len (L : List Ed) : (sdE L).length ≤ L.length := by
  have h := ck_len (srtE L) (srtE L).length
  rw [srtE_len] at h
  unfold sdE cpE
  rw [srtE_len]
  exact h
set_option maxHeartbeats 1000000 in
theorem sorted_any (v : Value) (L : List Ed) (w : World) (hv : RL w v 2 L.length (L.flatMap Ed.cells)) (hl : L.length ≤ 4000) :
    Calls Try.prog 24 #[v] w fun e w' => ∃ a c, e = .returned (.slice a (sdE L).length c) ∧ Sep w' [vec 41 2 (.slice a (sdE L).length c) (sdE L).length ((sdE L).flatMap Ed.cells), old w] := by
  have H := Lib.hid (clone_ed v L w hv hl)
  have hsl := srtE_len L
  clear hv
  go_enter Try.func24, Try.ntmps24
  go_wp2_with fail
  refine H.out.mono ?_
  rintro e w1 ⟨a, c, rfl, hS⟩
  clear H
  have H2 := Lib.hid (sortEdges_any a L.length c L w1 _ hS rfl (by omega))
  clear hS
  go_wp2_with fail
  refine H2.out.mono ?_
  rintro e w2 ⟨rfl, ys, hp, hs, hS⟩
  obtain rfl := srtE_uniq L ys hp hs
  clear H2 hp hs
  have H3 := Lib.hid (compactE_any a L.length c (srtE L) w2 _ hS hsl (by omega))
  clear hS
  go_wp2_with fail
  refine H3.out.mono ?_
  rintro e w3 ⟨rfl, hS⟩
  replace hS := Lib.hid hS
  clear H3
  go_wp2_with fail
  go_ret
  exact ⟨a, c, rfl, hS.out⟩
end Go.Proofs.Ytcnkmhfcgkbhbaa
