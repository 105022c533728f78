/-
  Names sorted by the library's SortFunc and name.Compare. No condition beside a slice of the call's own.
-/
import Derived.Test.YtbpeajcfabjphaaKyC
import Derived.Test.YtbpeajcfabjphaaSrtG
import Derived.Test.YtbpeajcfabjphaaHlN
import Derived.Test.YtbpeajcfabjphaaNSoL
namespace Go.Proofs.Ytbpeajcfabjphaa
open Go.RowKit Go.Shelf Go.Sort
theorem compareI_any (x y : Int) (w : World) : Calls Try.prog 49 #[.int .i64 x, .int .i64 y] w fun e w' => e = .returned (.int .i64 (Lib.compareInt x y)) ∧ w' = w := AnyG.cmp_Compare_int Try.cmpInts x y w
/-- Of two numbers the first one that is not 0. -/
theorem or2_any (x y : Int) (g c : Nat) (w : World) (hx : w.cell? ⟨g, 0, none⟩ = some (.int .i64 x)) (hy : w.cell? ⟨g, 1, none⟩ = some (.int .i64 y)) :
    Calls Try.prog 48 #[.slice (some ⟨g, 0, none⟩) 2 c] w fun e w' => e = .returned (.int .i64 (if x ≠ 0 then x else y)) ∧ w' = w := by
  by_cases h : x = 0
  · subst h
    rw [if_neg (by simp)]
    by_cases h2 : y = 0
    · subst h2
      go_enter Try.func48, Try.ntmps48
      go_wp2_with fail
      go_loopw [8] (fun i wr => ∃ k : Nat, k ≤ 2 ∧ i = .int .i64 k ∧ wr = w) (fun i _ => 2 - (intOf i).toNat)
      case atStart => exact ⟨0, by omega, rfl, rfl⟩
      case round =>
        obtain ⟨k, hk, rfl, rfl⟩ := hrel
        have : k = 0 ∨ k = 1 ∨ k = 2 := by omega
        rcases this with rfl | rfl | rfl
        · go_wp2_with fail
          go_roundw
          case rel => exact ⟨1, by omega, by go_num, by first | rfl | trivial⟩
          case measure => simp [intOf]
        · go_wp2_with fail
          go_roundw
          case rel => exact ⟨2, by omega, by go_num, by first | rfl | trivial⟩
          case measure => simp [intOf]
        · go_wp2_with fail
          go_ret
          exact ⟨rfl, rfl⟩
    · have h2' : (y != 0) = true := by simpa using h2
      go_enter Try.func48, Try.ntmps48
      go_wp2_with fail
      go_loopw [8] (fun i wr => ∃ k : Nat, k ≤ 1 ∧ i = .int .i64 k ∧ wr = w) (fun i _ => 2 - (intOf i).toNat)
      case atStart => exact ⟨0, by omega, rfl, rfl⟩
      case round =>
        obtain ⟨k, hk, rfl, rfl⟩ := hrel
        have : k = 0 ∨ k = 1 := by omega
        rcases this with rfl | rfl
        · go_wp2_with fail
          go_roundw
          case rel => exact ⟨1, by omega, by go_num, by first | rfl | trivial⟩
          case measure => simp [intOf]
        · go_wp2_with fail
          go_ret
          exact ⟨rfl, rfl⟩
  · rw [if_pos h]
    have h' : (x != 0) = true := by simpa using h
    go_enter Try.func48, Try.ntmps48
    go_wp2_with fail
    go_loopw [8] (fun i wr => i = .int .i64 0 ∧ wr = w) (fun i _ => 2 - (intOf i).toNat)
    case atStart => exact ⟨rfl, rfl⟩
    case round =>
      obtain ⟨rfl, rfl⟩ := hrel
      go_wp2_with fail
      go_ret
      exact ⟨rfl, rfl⟩
/-- What the sort's worlds are: draws, and new blocks. -/
theorem sgrow_alloc {w w' : World} (h : ∃ q os, w' = grow (w.drewN q) os) (o : Obj) : ∃ q os, w'.alloc o = grow (w.drewN q) os := by
  obtain ⟨q, os, rfl⟩ := h
  exact ⟨q, os ++ #[o], by rw [alloc_eq_grow, grow_grow]⟩
theorem sgrow_drew {w w' : World} (h : ∃ q os, w' = grow (w.drewN q) os) : ∃ q os, w'.drew = grow (w.drewN q) os := by
  obtain ⟨q, os, rfl⟩ := h
  exact ⟨q + 1, os, rfl⟩
/-- How names compare. -/
def cmpM (a b : Int × Int) : Int := if Lib.compareInt a.1 b.1 ≠ 0 then Lib.compareInt a.1 b.1 else Lib.compareInt a.2 b.2
theorem box2n (w : World) (b0 b1 : Array Value) : Sep ((w.alloc (.cells b0 24)).alloc (.cells b1 24)) [blk (w.heap.size + 1) 24 b1, blk w.heap.size 24 b0, old w] := by
  have := ((Sep.start w).alloc b0 24).alloc b1 24
  rw [World.size_alloc] at this
  exact this
set_option maxHeartbeats 1000000 in
theorem compareN_any (a b : Int × Int) (W : World) : Calls Try.prog 37 #[ekN a, ekN b] W fun e w' => e = .returned (.int .i64 (cmpM a b)) ∧ ∃ q os', w' = grow (W.drewN q) os' := by
  obtain ⟨af, at_⟩ := a
  obtain ⟨bf, bt⟩ := b
  unfold cmpM ekN
  have H1 := Lib.hid (fun V => compareI_any af bf V)
  have H2 := Lib.hid (fun V => compareI_any at_ bt V)
  simp only
  generalize Lib.compareInt af bf = c1 at *
  generalize Lib.compareInt at_ bt = c2 at *
  obtain ⟨R, hR⟩ : ∃ R, (if c1 ≠ 0 then c1 else c2) = R := ⟨_, rfl⟩
  have HO := Lib.hid (show ∀ (g c : Nat) (w : World), w.cell? ⟨g, 0, none⟩ = some (.int .i64 c1) → w.cell? ⟨g, 1, none⟩ = some (.int .i64 c2) → Calls Try.prog 48 #[.slice (some ⟨g, 0, none⟩) 2 c] w fun e w' => e = .returned (.int .i64 R) ∧ w' = w from fun g c w h1 h2 => by rw [← hR]; exact or2_any c1 c2 g c w h1 h2)
  rw [hR]
  clear hR
  have hB := Lib.hid (box2n W #[.int .i64 af, .int .i64 at_] #[.int .i64 bf, .int .i64 bt])
  have hG := Lib.hid (sgrow_drew (sgrow_alloc (sgrow_alloc (⟨0, #[], (grow_empty _).symm⟩ : ∃ q os, W = grow (W.drewN q) os) (.cells #[.int .i64 af, .int .i64 at_] 24)) (.cells #[.int .i64 bf, .int .i64 bt] 24)))
  go_enter Try.func37, Try.ntmps37
  go_wp2_with fail
  have hS := Lib.hid (show (fun V : World => Sep V [blk (W.heap.size + 1) 24 #[.int .i64 bf, .int .i64 bt], blk W.heap.size 24 #[.int .i64 af, .int .i64 at_], old W]) _ from hB.out.drew)
  refine hl_begin (fun V : World => Sep V [blk (W.heap.size + 1) 24 #[.int .i64 bf, .int .i64 bt], blk W.heap.size 24 #[.int .i64 af, .int .i64 at_], old W]) [(0, true), (1, true), (2, true), (3, true), (5, true), (6, true), (7, true), (8, true), (4, false), (9, false), (10, false), (11, false), (12, true)] (by kernel_rfl) (by kernel_rfl) (by kernel_rfl) rfl (fun _ _ _ _ _ h => h) hS.out ?_
  change HL _ _ _ _ _ _ (World.drew _)
  generalize World.drew _ = wd at *
  refine hl_take ?v1 rfl (by kernel_rfl) ?y1 ?z1
  case y1 => intro W hW; skip; replace hW := Lib.hid hW; go_simp; try rfl
  case z1 =>
  simp only [Act.put, List.setIfInBounds_toArray, List.set_cons_succ, List.set_cons_zero, List.getElem_toArray, List.getElem_cons_zero, List.getElem_cons_succ]
  refine hl_take ?v2 rfl (by kernel_rfl) ?y2 ?z2
  case y2 => intro W hW; obtain ⟨_, c0, c1, _⟩ := (show Sep _ _ from hW).b2; obtain ⟨_, d0, d1, _⟩ := (show Sep _ _ from hW).to1.b2; replace hW := Lib.hid hW; go_simp; try rfl
  case z2 =>
  simp only [Act.put, List.setIfInBounds_toArray, List.set_cons_succ, List.set_cons_zero, List.getElem_toArray, List.getElem_cons_zero, List.getElem_cons_succ]
  refine hl_take ?v3 rfl (by kernel_rfl) ?y3 ?z3
  case y3 => intro W hW; skip; replace hW := Lib.hid hW; go_simp; try rfl
  case z3 =>
  simp only [Act.put, List.setIfInBounds_toArray, List.set_cons_succ, List.set_cons_zero, List.getElem_toArray, List.getElem_cons_zero, List.getElem_cons_succ]
  refine hl_take ?v4 rfl (by kernel_rfl) ?y4 ?z4
  case y4 => intro W hW; obtain ⟨_, c0, c1, _⟩ := (show Sep _ _ from hW).b2; obtain ⟨_, d0, d1, _⟩ := (show Sep _ _ from hW).to1.b2; replace hW := Lib.hid hW; go_simp; try rfl
  case z4 =>
  simp only [Act.put, List.setIfInBounds_toArray, List.set_cons_succ, List.set_cons_zero, List.getElem_toArray, List.getElem_cons_zero, List.getElem_cons_succ]
  refine hl_take ?v5 rfl (by kernel_rfl) ?y5 ?z5
  case y5 => intro W hW; skip; replace hW := Lib.hid hW; go_simp; try rfl
  case z5 =>
  simp only [Act.put, List.setIfInBounds_toArray, List.set_cons_succ, List.set_cons_zero, List.getElem_toArray, List.getElem_cons_zero, List.getElem_cons_succ]
  refine hl_take ?v6 rfl (by kernel_rfl) ?y6 ?z6
  case y6 => intro W hW; obtain ⟨_, c0, c1, _⟩ := (show Sep _ _ from hW).b2; obtain ⟨_, d0, d1, _⟩ := (show Sep _ _ from hW).to1.b2; replace hW := Lib.hid hW; go_simp; try rfl
  case z6 =>
  simp only [Act.put, List.setIfInBounds_toArray, List.set_cons_succ, List.set_cons_zero, List.getElem_toArray, List.getElem_cons_zero, List.getElem_cons_succ]
  refine hl_take ?v7 rfl (by kernel_rfl) ?y7 ?z7
  case y7 => intro W hW; skip; replace hW := Lib.hid hW; go_simp; try rfl
  case z7 =>
  simp only [Act.put, List.setIfInBounds_toArray, List.set_cons_succ, List.set_cons_zero, List.getElem_toArray, List.getElem_cons_zero, List.getElem_cons_succ]
  refine hl_take ?v8 rfl (by kernel_rfl) ?y8 ?z8
  case y8 => intro W hW; obtain ⟨_, c0, c1, _⟩ := (show Sep _ _ from hW).b2; obtain ⟨_, d0, d1, _⟩ := (show Sep _ _ from hW).to1.b2; replace hW := Lib.hid hW; go_simp; try rfl
  case z8 =>
  simp only [Act.put, List.setIfInBounds_toArray, List.set_cons_succ, List.set_cons_zero, List.getElem_toArray, List.getElem_cons_zero, List.getElem_cons_succ]
  refine hl_one rfl (by kernel_rfl) (fun K hK => ?_)
  go_simp
  refine (H1.out _).mono ?_
  rintro e w1 ⟨rfl, hw⟩
  subst hw
  refine hK.out _ _ hS.out ?_
  clear hK K
  try simp only [Act.put, List.setIfInBounds_toArray, List.set_cons_succ, List.set_cons_zero, List.getElem_toArray, List.getElem_cons_zero, List.getElem_cons_succ]
  refine hl_one rfl (by kernel_rfl) (fun K hK => ?_)
  go_simp
  refine (H2.out _).mono ?_
  rintro e w1 ⟨rfl, hw⟩
  subst hw
  refine hK.out _ _ hS.out ?_
  clear hK K
  try simp only [Act.put, List.setIfInBounds_toArray, List.set_cons_succ, List.set_cons_zero, List.getElem_toArray, List.getElem_cons_zero, List.getElem_cons_succ]
  refine hl_one rfl (by kernel_rfl) (fun K hK => ?_)
  go_simp
  have hN := Lib.hid ((show Sep _ _ from hS.out).alloc #[.int .i64 c1, .int .i64 c2] 3)
  replace hG := Lib.hid (sgrow_alloc hG.out (.cells #[.int .i64 c1, .int .i64 c2] 3))
  replace hS := Lib.hid (show (fun V : World => Sep V [blk (W.heap.size + 1) 24 #[.int .i64 bf, .int .i64 bt], blk W.heap.size 24 #[.int .i64 af, .int .i64 at_], old W]) _ from (show Sep _ _ from hS.out).allocG (.cells #[.int .i64 c1, .int .i64 c2] 3))
  refine hK.out _ _ hS.out ?_
  clear hK K
  try simp only [Act.put, List.setIfInBounds_toArray, List.set_cons_succ, List.set_cons_zero, List.getElem_toArray, List.getElem_cons_zero, List.getElem_cons_succ]
  refine hl_one rfl (by kernel_rfl) (fun K hK => ?_)
  go_simp
  obtain ⟨_, e0, e1, _⟩ := hN.out.b2
  refine (HO.out _ _ _ e0 e1).mono ?_
  rintro e w1 ⟨rfl, hw⟩
  subst hw
  refine hK.out _ _ hS.out ?_
  clear hK K
  try simp only [Act.put, List.setIfInBounds_toArray, List.set_cons_succ, List.set_cons_zero, List.getElem_toArray, List.getElem_cons_zero, List.getElem_cons_succ]
  refine hl_take ?v9 rfl (by kernel_rfl) ?y9 ?z9
  case y9 => intro W hW; skip; replace hW := Lib.hid hW; go_simp; try rfl
  case z9 =>
  simp only [Act.put, List.setIfInBounds_toArray, List.set_cons_succ, List.set_cons_zero, List.getElem_toArray, List.getElem_cons_zero, List.getElem_cons_succ]
  refine hl_done ?_
  skip
  go_wp2_with fail
  go_ret
  exact ⟨rfl, hG.out⟩
theorem compI_lt (x y : Int) : (Lib.compareInt x y < 0) = (x < y) ∧ (Lib.compareInt x y = 0) = (x = y) := by
  unfold Lib.compareInt
  by_cases h1 : x < y
  · simp [h1]; omega
  · by_cases h2 : y < x
    · simp [h1, h2]; omega
    · simp [h1, h2]; omega
def ltN (a b : Int × Int) : Prop := a.1 < b.1 ∨ a.1 = b.1 ∧ a.2 < b.2
theorem ltN_iff (a b : Int × Int) : ltOf cmpM a b = true ↔ ltN a b := by
  unfold ltOf cmpM ltN
  obtain ⟨h1, h2⟩ := compI_lt a.1 b.1
  obtain ⟨h3, h4⟩ := compI_lt a.2 b.2
  rw [decide_eq_true_iff]
  by_cases h : Lib.compareInt a.1 b.1 = 0
  · rw [if_neg (by simpa using h), h3]
    rw [h2] at h
    constructor
    · exact fun hh => .inr ⟨h, hh⟩
    · rintro (hh | ⟨_, hh⟩)
      · omega
      · exact hh
  · rw [if_pos h, h1]
    rw [h2] at h
    constructor
    · exact .inl
    · rintro (hh | ⟨hh, _⟩)
      · exact hh
      · exact absurd hh h
theorem swo_nm : SWO (ltOf cmpM) := by
  refine ⟨fun x => ?_, fun x y z h1 h2 => ?_, fun x y z h1 h2 => ?_⟩
  · cases h : ltOf cmpM x x with
    | false => rfl
    | true => have := (ltN_iff x x).1 h; unfold ltN at this; omega
  · rw [ltN_iff] at *; unfold ltN at *; omega
  · rw [← Bool.not_eq_true] at *; rw [ltN_iff] at *; unfold ltN at *; omega
theorem eg_cmpM : ∀ args w, (callFunc 37 args).run Try.prog w = .ok (.enter 37 args) w := enters_of Try.func37 (by kernel_rfl) rfl
theorem isAggN : ∀ w, (isAgg 24).run Try.prog w = .ok true w := fun w => by kernel_rfl
theorem sizeOfN : ∀ w, (Go.sizeOf 24).run Try.prog w = .ok 2 w := fun w => by kernel_rfl
def leN (a b : Int × Int) : Prop := a.1 < b.1 ∨ a.1 = b.1 ∧ a.2 ≤ b.2
theorem sortNames_any (a : Option Addr) (n c : Nat) (xs : List (Int × Int)) (w : World) (rs : List Res) (hS : Sep w (vec 24 2 (.slice a n c) n (xs.flatMap nmC) :: rs)) (hl : xs.length = n) (hn : n ≤ 1000000) :
    Calls Try.prog 46 #[.slice a n c, .func (.func 37) #[] #[]] w fun e w' => e = .returned (.tuple #[]) ∧ ∃ ys : List (Int × Int), ys.Perm xs ∧ ys.Pairwise leN ∧ Sep w' (vec 24 2 (.slice a n c) n (ys.flatMap nmC) :: rs) := by
  rcases Nat.eq_zero_or_pos n with h0 | h0
  · subst h0
    have hx := List.eq_nil_of_length_eq_zero hl
    subst hx
    refine (AnyF.slices_SortFunc_none Try.sortNames a c _ w).mono ?_
    rintro e w' ⟨rfl, rfl⟩
    exact ⟨rfl, [], List.Perm.refl _, List.Pairwise.nil, hS⟩
  · obtain ⟨g, rfl⟩ : ∃ g, a = some ⟨g, 0, none⟩ := by
      rcases hS.gvec.2 with ⟨_, h1⟩ | ⟨g, cap, cur, hv, _⟩
      · omega
      · injection hv with e1 _ _
        exact ⟨g, e1⟩
    obtain ⟨hH, hg⟩ := hS.vec_holdsK nmC nmC_len xs
    have hcmp : CmpLays Try.prog 37 #[] nmC 2 cmpM g 0 xs.toArray.size w := fun m os dk _ x y => compareN_any x y _
    have hcon := AnyQ.slices_SortFunc Try.sortNames 2 isAggN sizeOfN nmC nmC_len (fun x v hv => by simp [nmC] at hv; rcases hv with rfl | rfl <;> rfl) cmpM swo_nm 37 #[] g 0 c xs.toArray w eg_cmpM hcmp hH hg (by simp; omega)
    rw [show xs.toArray.size = n by simp [hl]] at hcon
    refine Calls.mono (show Calls Try.prog 46 _ w _ from hcon) ?_
    rintro e w' ⟨rfl, d', m, os, hp, hs, rfl⟩
    rw [show n = xs.toArray.size by simp [hl]] at hp hs
    obtain ⟨hsz, hperm⟩ := perm_list hp
    have hsrt := sorted_list hsz hs
    refine ⟨rfl, d'.toList, by simpa using hperm, hsrt.imp (fun {a b} h => ?_), ?_⟩
    · have h2 : ¬ ltN b a := fun hh => by rw [(ltN_iff b a).2 hh] at h; cases h
      unfold ltN at h2
      unfold leN
      omega
    · have := hS.vec_row id m (flatK nmC 2 d') os (by rw [size_flatK, hsz]; simp [hl])
      rw [flatK_list nmC 2 nmC_len d', List.map_id] at this
      exact this
end Go.Proofs.Ytbpeajcfabjphaa
