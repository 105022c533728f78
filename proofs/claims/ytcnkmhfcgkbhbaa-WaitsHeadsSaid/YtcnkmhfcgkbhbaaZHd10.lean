/-
  Contracts and plain laws that the walk leans on, part 10. No condition.
-/
import Derived.Test.YtcnkmhfcgkbhbaaZHd9
import Derived.Test.YtcnkmhfcgkbhbaaProg
import Derived.Test.YtcnkmhfcgkbhbaaChecked
import Derived.Shelf.SlSortCmp.Whole1
import Derived.Shelf.SlSortCmp.WholeK
import Derived.Shelf.SlSortCmp.NoneTotal
import Derived.Shelf.SlicesG.Cmp
import Derived.Shelf.Sort.Plain
import Derived.Shelf.Slices.CompactI
import Derived.Ground.SlsfProg
import Derived.Ground.SlgcProg
import Derived.Ground.NamesProg
import Derived.Ground.Names2Prog
namespace Go.Proofs
open Go.Shelf
def Try.sortEdges_ren : Go.Shelf.Ren := ⟨fun | 6 => 40 | 15 => 54 | 14 => 57 | 28 => 76 | 29 => 77 | 20 => 78 | 21 => 79 | 22 => 80 | 23 => 81 | 24 => 82 | 25 => 83 | 26 => 84 | 27 => 85 | 46 => 104 | 47 => 100 | 48 => 101 | 49 => 105 | 50 => 106 | 57 => 112 | n => n, fun | 22 => 33 | 24 => 41 | 25 => 73 | 3 => 3 | 39 => 84 | 0 => 0 | 53 => 103 | 55 => 105 | 4 => 4 | 46 => 96 | 45 => 95 | 50 => 67 | 5 => 5 | 9 => 9 | 66 => 122 | 70 => 126 | 76 => 132 | 77 => 133 | n => n, fun | n => n⟩
theorem Try.sortEdges : Go.Proofs.SlLaysF0.n6 Try.prog Try.sortEdges_ren := {
  mixed := by kernel_rfl
  f6 := ⟨Try.f40.name, by decide, Try.func40.trans (congrArg some (by kernel_rfl))⟩
  f14 := ⟨Try.f57.name, by decide, Try.func57.trans (congrArg some (by kernel_rfl))⟩
  f15 := Try.func54.trans (congrArg some (by kernel_rfl))
  f20 := ⟨Try.f78.name, by decide, Try.func78.trans (congrArg some (by kernel_rfl))⟩
  f21 := ⟨Try.f79.name, by decide, Try.func79.trans (congrArg some (by kernel_rfl))⟩
  f22 := ⟨Try.f80.name, by decide, Try.func80.trans (congrArg some (by kernel_rfl))⟩
  f23 := ⟨Try.f81.name, by decide, Try.func81.trans (congrArg some (by kernel_rfl))⟩
  f24 := ⟨Try.f82.name, by decide, Try.func82.trans (congrArg some (by kernel_rfl))⟩
  f25 := ⟨Try.f83.name, by decide, Try.func83.trans (congrArg some (by kernel_rfl))⟩
  f26 := ⟨Try.f84.name, by decide, Try.func84.trans (congrArg some (by kernel_rfl))⟩
  f27 := ⟨Try.f85.name, by decide, Try.func85.trans (congrArg some (by kernel_rfl))⟩
  f28 := Try.func76.trans (congrArg some (by kernel_rfl))
  f29 := Try.func77.trans (congrArg some (by kernel_rfl))
  f46 := ⟨Try.f104.name, by decide, Try.func104.trans (congrArg some (by kernel_rfl))⟩
  f47 := Try.func100.trans (congrArg some (by kernel_rfl))
  f48 := Try.func101.trans (congrArg some (by kernel_rfl))
  f49 := ⟨Try.f105.name, by decide, Try.func105.trans (congrArg some (by kernel_rfl))⟩
  f50 := ⟨Try.f106.name, by decide, Try.func106.trans (congrArg some (by kernel_rfl))⟩
  f57 := ⟨Try.f112.name, by decide, Try.func112.trans (congrArg some (by kernel_rfl))⟩
  t0 := Try.underlying0
  a0 := Try.isAgg0
  z0 := Try.sizeOf0
  v0 := Try.zeroValue0
  t3 := Try.underlying3
  a3 := Try.isAgg3
  z3 := Try.sizeOf3
  v3 := Try.zeroValue3
  t4 := Try.underlying4
  a4 := Try.isAgg4
  z4 := Try.sizeOf4
  v4 := Try.zeroValue4
  t5 := Try.underlying5
  a5 := Try.isAgg5
  z5 := Try.sizeOf5
  v5 := Try.zeroValue5
  t9 := Try.underlying9
  a9 := Try.isAgg9
  z9 := Try.sizeOf9
  v9 := Try.zeroValue9
  t22 := Try.underlying33
  a22 := Try.isAgg33
  z22 := Try.sizeOf33
  v22 := Try.zeroValue33
  t25 := Try.underlying73
  a25 := Try.isAgg73
  z25 := Try.sizeOf73
  v25 := Try.zeroValue73
  t39 := Try.underlying84
  a39 := Try.isAgg84
  z39 := Try.sizeOf84
  v39 := Try.zeroValue84
  t45 := Try.underlying95
  a45 := Try.isAgg95
  z45 := Try.sizeOf95
  v45 := Try.zeroValue95
  t46 := Try.underlying96
  a46 := Try.isAgg96
  z46 := Try.sizeOf96
  v46 := Try.zeroValue96
  t50 := Try.underlying67
  a50 := Try.isAgg67
  z50 := Try.sizeOf67
  v50 := Try.zeroValue67
  t53 := Try.underlying103
  a53 := Try.isAgg103
  z53 := Try.sizeOf103
  v53 := Try.zeroValue103
  t55 := Try.underlying105
  a55 := Try.isAgg105
  z55 := Try.sizeOf105
  v55 := Try.zeroValue105
  t66 := Try.underlying122
  a66 := Try.isAgg122
  z66 := Try.sizeOf122
  v66 := Try.zeroValue122
  t70 := Try.underlying126
  a70 := Try.isAgg126
  z70 := Try.sizeOf126
  v70 := Try.zeroValue126
  t76 := Try.underlying132
  a76 := Try.isAgg132
  z76 := Try.sizeOf132
  v76 := Try.zeroValue132
  t77 := Try.underlying133
  a77 := Try.isAgg133
  z77 := Try.sizeOf133
  v77 := Try.zeroValue133 }
def Try.cmpInts_ren : Go.Shelf.Ren := ⟨fun | 5 => 51 | 7 => 66 | n => n, fun | 22 => 3 | 3 => 3 | 4 => 4 | n => n, fun | n => n⟩
theorem Try.cmpInts : Go.Proofs.SlLaysC2.n5 Try.prog Try.cmpInts_ren := {
  mixed := by kernel_rfl
  f5 := ⟨Try.f51.name, by decide, Try.func51.trans (congrArg some (by kernel_rfl))⟩
  f7 := ⟨Try.f66.name, by decide, Try.func66.trans (congrArg some (by kernel_rfl))⟩
  t3 := Try.underlying3
  a3 := Try.isAgg3
  z3 := Try.sizeOf3
  v3 := Try.zeroValue3
  t4 := Try.underlying4
  a4 := Try.isAgg4
  z4 := Try.sizeOf4
  v4 := Try.zeroValue4
  t22 := Try.underlying3
  a22 := Try.isAgg3
  z22 := Try.sizeOf3
  v22 := Try.zeroValue3 }
def Try.sortInts_ren : Go.Shelf.Ren := ⟨fun | 6 => 50 | 15 => 54 | 14 => 65 | 28 => 76 | 29 => 77 | 20 => 91 | 21 => 92 | 22 => 93 | 23 => 94 | 24 => 95 | 25 => 96 | 26 => 97 | 27 => 98 | 46 => 108 | 47 => 100 | 48 => 101 | 49 => 109 | 50 => 110 | 57 => 113 | n => n, fun | 22 => 30 | 24 => 3 | 25 => 47 | 3 => 3 | 39 => 84 | 0 => 0 | 53 => 103 | 55 => 105 | 4 => 4 | 46 => 96 | 45 => 95 | 50 => 67 | 5 => 5 | 9 => 9 | 66 => 122 | 70 => 126 | 76 => 132 | 77 => 133 | n => n, fun | n => n⟩
theorem Try.sortInts : Go.Proofs.SlLaysF.n6 Try.prog Try.sortInts_ren := {
  mixed := by kernel_rfl
  f6 := ⟨Try.f50.name, by decide, Try.func50.trans (congrArg some (by kernel_rfl))⟩
  f14 := ⟨Try.f65.name, by decide, Try.func65.trans (congrArg some (by kernel_rfl))⟩
  f15 := Try.func54.trans (congrArg some (by kernel_rfl))
  f20 := ⟨Try.f91.name, by decide, Try.func91.trans (congrArg some (by kernel_rfl))⟩
  f21 := ⟨Try.f92.name, by decide, Try.func92.trans (congrArg some (by kernel_rfl))⟩
  f22 := ⟨Try.f93.name, by decide, Try.func93.trans (congrArg some (by kernel_rfl))⟩
  f23 := ⟨Try.f94.name, by decide, Try.func94.trans (congrArg some (by kernel_rfl))⟩
  f24 := ⟨Try.f95.name, by decide, Try.func95.trans (congrArg some (by kernel_rfl))⟩
  f25 := ⟨Try.f96.name, by decide, Try.func96.trans (congrArg some (by kernel_rfl))⟩
  f26 := ⟨Try.f97.name, by decide, Try.func97.trans (congrArg some (by kernel_rfl))⟩
  f27 := ⟨Try.f98.name, by decide, Try.func98.trans (congrArg some (by kernel_rfl))⟩
  f28 := Try.func76.trans (congrArg some (by kernel_rfl))
  f29 := Try.func77.trans (congrArg some (by kernel_rfl))
  f46 := ⟨Try.f108.name, by decide, Try.func108.trans (congrArg some (by kernel_rfl))⟩
  f47 := Try.func100.trans (congrArg some (by kernel_rfl))
  f48 := Try.func101.trans (congrArg some (by kernel_rfl))
  f49 := ⟨Try.f109.name, by decide, Try.func109.trans (congrArg some (by kernel_rfl))⟩
  f50 := ⟨Try.f110.name, by decide, Try.func110.trans (congrArg some (by kernel_rfl))⟩
  f57 := ⟨Try.f113.name, by decide, Try.func113.trans (congrArg some (by kernel_rfl))⟩
  t0 := Try.underlying0
  a0 := Try.isAgg0
  z0 := Try.sizeOf0
  v0 := Try.zeroValue0
  t3 := Try.underlying3
  a3 := Try.isAgg3
  z3 := Try.sizeOf3
  v3 := Try.zeroValue3
  t4 := Try.underlying4
  a4 := Try.isAgg4
  z4 := Try.sizeOf4
  v4 := Try.zeroValue4
  t5 := Try.underlying5
  a5 := Try.isAgg5
  z5 := Try.sizeOf5
  v5 := Try.zeroValue5
  t9 := Try.underlying9
  a9 := Try.isAgg9
  z9 := Try.sizeOf9
  v9 := Try.zeroValue9
  t22 := Try.underlying30
  a22 := Try.isAgg30
  z22 := Try.sizeOf30
  v22 := Try.zeroValue30
  a24 := Try.isAgg3
  z24 := Try.sizeOf3
  t25 := Try.underlying47
  a25 := Try.isAgg47
  z25 := Try.sizeOf47
  v25 := Try.zeroValue47
  t39 := Try.underlying84
  a39 := Try.isAgg84
  z39 := Try.sizeOf84
  v39 := Try.zeroValue84
  t45 := Try.underlying95
  a45 := Try.isAgg95
  z45 := Try.sizeOf95
  v45 := Try.zeroValue95
  t46 := Try.underlying96
  a46 := Try.isAgg96
  z46 := Try.sizeOf96
  v46 := Try.zeroValue96
  t50 := Try.underlying67
  a50 := Try.isAgg67
  z50 := Try.sizeOf67
  v50 := Try.zeroValue67
  t53 := Try.underlying103
  a53 := Try.isAgg103
  z53 := Try.sizeOf103
  v53 := Try.zeroValue103
  t55 := Try.underlying105
  a55 := Try.isAgg105
  z55 := Try.sizeOf105
  v55 := Try.zeroValue105
  t66 := Try.underlying122
  a66 := Try.isAgg122
  z66 := Try.sizeOf122
  v66 := Try.zeroValue122
  t70 := Try.underlying126
  a70 := Try.isAgg126
  z70 := Try.sizeOf126
  v70 := Try.zeroValue126
  t76 := Try.underlying132
  a76 := Try.isAgg132
  z76 := Try.sizeOf132
  v76 := Try.zeroValue132
  t77 := Try.underlying133
  a77 := Try.isAgg133
  z77 := Try.sizeOf133
  v77 := Try.zeroValue133 }
def Try.sortIntsZ_ren : Go.Shelf.Ren := ⟨fun | 6 => 50 | 15 => 54 | 14 => 65 | 28 => 76 | 29 => 77 | 20 => 91 | 21 => 92 | 22 => 93 | 23 => 94 | 24 => 95 | 25 => 96 | 26 => 97 | 27 => 98 | 46 => 108 | 47 => 100 | 48 => 101 | 49 => 109 | 50 => 110 | 57 => 113 | n => n, fun | 22 => 30 | 24 => 3 | 25 => 47 | 3 => 3 | 39 => 84 | 0 => 0 | 53 => 103 | 55 => 105 | 4 => 4 | 46 => 96 | 45 => 95 | 50 => 67 | 5 => 5 | 9 => 9 | 66 => 122 | 70 => 126 | 76 => 132 | 77 => 133 | n => n, fun | n => n⟩
theorem Try.sortIntsZ : Go.Proofs.SlLaysF0.n6 Try.prog Try.sortIntsZ_ren := {
  mixed := by kernel_rfl
  f6 := ⟨Try.f50.name, by decide, Try.func50.trans (congrArg some (by kernel_rfl))⟩
  f14 := ⟨Try.f65.name, by decide, Try.func65.trans (congrArg some (by kernel_rfl))⟩
  f15 := Try.func54.trans (congrArg some (by kernel_rfl))
  f20 := ⟨Try.f91.name, by decide, Try.func91.trans (congrArg some (by kernel_rfl))⟩
  f21 := ⟨Try.f92.name, by decide, Try.func92.trans (congrArg some (by kernel_rfl))⟩
  f22 := ⟨Try.f93.name, by decide, Try.func93.trans (congrArg some (by kernel_rfl))⟩
  f23 := ⟨Try.f94.name, by decide, Try.func94.trans (congrArg some (by kernel_rfl))⟩
  f24 := ⟨Try.f95.name, by decide, Try.func95.trans (congrArg some (by kernel_rfl))⟩
  f25 := ⟨Try.f96.name, by decide, Try.func96.trans (congrArg some (by kernel_rfl))⟩
  f26 := ⟨Try.f97.name, by decide, Try.func97.trans (congrArg some (by kernel_rfl))⟩
  f27 := ⟨Try.f98.name, by decide, Try.func98.trans (congrArg some (by kernel_rfl))⟩
  f28 := Try.func76.trans (congrArg some (by kernel_rfl))
  f29 := Try.func77.trans (congrArg some (by kernel_rfl))
  f46 := ⟨Try.f108.name, by decide, Try.func108.trans (congrArg some (by kernel_rfl))⟩
  f47 := Try.func100.trans (congrArg some (by kernel_rfl))
  f48 := Try.func101.trans (congrArg some (by kernel_rfl))
  f49 := ⟨Try.f109.name, by decide, Try.func109.trans (congrArg some (by kernel_rfl))⟩
  f50 := ⟨Try.f110.name, by decide, Try.func110.trans (congrArg some (by kernel_rfl))⟩
  f57 := ⟨Try.f113.name, by decide, Try.func113.trans (congrArg some (by kernel_rfl))⟩
  t0 := Try.underlying0
  a0 := Try.isAgg0
  z0 := Try.sizeOf0
  v0 := Try.zeroValue0
  t3 := Try.underlying3
  a3 := Try.isAgg3
  z3 := Try.sizeOf3
  v3 := Try.zeroValue3
  t4 := Try.underlying4
  a4 := Try.isAgg4
  z4 := Try.sizeOf4
  v4 := Try.zeroValue4
  t5 := Try.underlying5
  a5 := Try.isAgg5
  z5 := Try.sizeOf5
  v5 := Try.zeroValue5
  t9 := Try.underlying9
  a9 := Try.isAgg9
  z9 := Try.sizeOf9
  v9 := Try.zeroValue9
  t22 := Try.underlying30
  a22 := Try.isAgg30
  z22 := Try.sizeOf30
  v22 := Try.zeroValue30
  t25 := Try.underlying47
  a25 := Try.isAgg47
  z25 := Try.sizeOf47
  v25 := Try.zeroValue47
  t39 := Try.underlying84
  a39 := Try.isAgg84
  z39 := Try.sizeOf84
  v39 := Try.zeroValue84
  t45 := Try.underlying95
  a45 := Try.isAgg95
  z45 := Try.sizeOf95
  v45 := Try.zeroValue95
  t46 := Try.underlying96
  a46 := Try.isAgg96
  z46 := Try.sizeOf96
  v46 := Try.zeroValue96
  t50 := Try.underlying67
  a50 := Try.isAgg67
  z50 := Try.sizeOf67
  v50 := Try.zeroValue67
  t53 := Try.underlying103
  a53 := Try.isAgg103
  z53 := Try.sizeOf103
  v53 := Try.zeroValue103
  t55 := Try.underlying105
  a55 := Try.isAgg105
  z55 := Try.sizeOf105
  v55 := Try.zeroValue105
  t66 := Try.underlying122
  a66 := Try.isAgg122
  z66 := Try.sizeOf122
  v66 := Try.zeroValue122
  t70 := Try.underlying126
  a70 := Try.isAgg126
  z70 := Try.sizeOf126
  v70 := Try.zeroValue126
  t76 := Try.underlying132
  a76 := Try.isAgg132
  z76 := Try.sizeOf132
  v76 := Try.zeroValue132
  t77 := Try.underlying133
  a77 := Try.isAgg133
  z77 := Try.sizeOf133
  v77 := Try.zeroValue133 }
def Try.compactInts_ren : Go.Shelf.Ren := ⟨fun | 20 => 52 | n => n, fun | 22 => 30 | 3 => 3 | 4 => 4 | 0 => 0 | n => n, fun | n => n⟩
theorem Try.compactInts : Go.Proofs.Lays2.n20 Try.prog Try.compactInts_ren := {
  mixed := by kernel_rfl
  f20 := Try.func52.trans (congrArg some (by kernel_rfl))
  t0 := Try.underlying0
  a0 := Try.isAgg0
  z0 := Try.sizeOf0
  v0 := Try.zeroValue0
  t3 := Try.underlying3
  a3 := Try.isAgg3
  z3 := Try.sizeOf3
  v3 := Try.zeroValue3
  t4 := Try.underlying4
  a4 := Try.isAgg4
  z4 := Try.sizeOf4
  v4 := Try.zeroValue4
  t22 := Try.underlying30
  a22 := Try.isAgg30
  z22 := Try.sizeOf30
  v22 := Try.zeroValue30
  i3 := by kernel_rfl }
end Go.Proofs
namespace Go.Proofs.Ytcnkmhfcgkbhbaa
open Go.RowKit Go.Shelf Go.Sort
theorem compareI_any (x y : Int) (w : World) : Calls Try.prog 51 #[.int .i64 x, .int .i64 y] w fun e w' => e = .returned (.int .i64 (Lib.compareInt x y)) ∧ w' = w := AnyG.cmp_Compare_int Try.cmpInts x y w
theorem eg_cmp : ∀ args w, (callFunc 51 args).run Try.prog w = .ok (.enter 51 args) w := enters_of Try.func51 (by kernel_rfl) rfl
theorem sortInts_any (a : Option Addr) (n c : Nat) (xs : List Int) (w : World) (rs : List Res) (hS : Sep w (vec 3 1 (.slice a n c) n (xs.map (Value.int .i64)) :: rs)) (hl : xs.length = n) (hn : n ≤ 1000000) :
    Calls Try.prog 50 #[.slice a n c, .func (.func 51) #[] #[]] w fun e w' => e = .returned (.tuple #[]) ∧ ∃ ys : List Int, ys.Perm xs ∧ ys.Pairwise (· ≤ ·) ∧ Sep w' (vec 3 1 (.slice a n c) n (ys.map (Value.int .i64)) :: rs) := by
  rcases Nat.eq_zero_or_pos n with h0 | h0
  · subst h0
    have hx := List.eq_nil_of_length_eq_zero hl
    subst hx
    refine (AnyF.slices_SortFunc_none Try.sortIntsZ a c _ w).mono ?_
    rintro e w' ⟨rfl, rfl⟩
    exact ⟨rfl, [], List.Perm.refl _, List.Pairwise.nil, hS⟩
  · obtain ⟨g, rfl⟩ : ∃ g, a = some ⟨g, 0, none⟩ := by
      rcases hS.gvec.2 with ⟨_, h1⟩ | ⟨g, cap, cur, hv, _⟩
      · omega
      · injection hv with e1 _ _
        exact ⟨g, e1⟩
    obtain ⟨hH, hg⟩ := hS.vec_holds1 (Value.int .i64) xs hl
    have hcmp : CmpLays1 Try.prog 51 #[] (Value.int .i64) Lib.compareInt g 0 xs.toArray.size w := fun m os dk _ x y => (compareI_any x y _).mono fun e w' h => ⟨h.1, 0, #[], by rw [h.2, grow_empty]; rfl⟩
    have hcon := Any.slices_SortFunc Try.sortInts (Value.int .i64) (fun _ => rfl) Lib.compareInt swo_int 51 #[] g 0 c xs.toArray w eg_cmp hcmp hH hg (by simp; omega)
    rw [show xs.toArray.size = n by simp [hl]] at hcon
    refine Calls.mono (show Calls Try.prog 50 _ w _ from hcon) ?_
    rintro e w' ⟨rfl, d', m, os, hp, hs, rfl⟩
    rw [show n = xs.toArray.size by simp [hl]] at hp hs
    obtain ⟨hsz, hperm⟩ := perm_list hp
    have hsrt := sorted_list hsz hs
    refine ⟨rfl, d'.toList, by simpa using hperm, hsrt.imp (fun {a b} h => by rw [lt_int] at h; simpa using h), ?_⟩
    have := hS.vec_row (Value.int .i64) m d' os (by rw [hsz]; simp [hl])
    exact this
end Go.Proofs.Ytcnkmhfcgkbhbaa
namespace Go.Proofs.Ytcnkmhfcgkbhbaa
open Go.RowKit
theorem compactInts_any (a : Option Addr) (n c : Nat) (xs : List Int) (w : World) (rs : List Res) (hS : Sep w (vec 3 1 (.slice a n c) n (xs.map (Value.int .i64)) :: rs)) (hl : xs.length = n) (hn : n ≤ 1000000) :
    Calls Try.prog 52 #[.slice a n c] w fun e w' => e = .returned (.slice a (Lib.compact xs).length c) ∧ Sep w' (vec 3 1 (.slice a (Lib.compact xs).length c) (Lib.compact xs).length ((Lib.compact xs).map (Value.int .i64)) :: rs) := by
  rcases Nat.eq_zero_or_pos n with h0 | h0
  · subst h0
    have hx := List.eq_nil_of_length_eq_zero hl
    subst hx
    refine (Any.slices_Compact_int_empty Try.compactInts a c w).mono ?_
    rintro e w' ⟨rfl, rfl⟩
    exact ⟨rfl, hS⟩
  · obtain ⟨g, rfl⟩ : ∃ g, a = some ⟨g, 0, none⟩ := by
      rcases hS.gvec.2 with ⟨_, h1⟩ | ⟨g, cap, cur, hv, _⟩
      · omega
      · injection hv with e1 _ _
        exact ⟨g, e1⟩
    obtain ⟨hH, hg⟩ := hS.vec_holds1 (Value.int .i64) xs hl
    obtain ⟨_, _, hnc, hcm, _⟩ := hS.vec_blk
    have hcl : (Lib.compact xs).length ≤ xs.length := by
      unfold Lib.compact Lib.compactUpTo
      rw [List.length_map]
      exact Nat.le_trans (List.length_filter_le _ _) (by simp)
    have hcon := Any.slices_Compact_int Try.compactInts g 0 c xs w hH (by omega) (by omega)
    subst hl
    refine Calls.mono (show Calls Try.prog 52 _ w _ from hcon) ?_
    rintro e w' ⟨rfl, q, rfl⟩
    refine ⟨rfl, ?_⟩
    have h2 := hS.vec_row (Value.int .i64) q (Lib.compact xs ++ List.replicate (xs.length - (Lib.compact xs).length) 0).toArray #[] (by simp; omega)
    rw [Go.Sort.grow_empty] at h2
    have h3 := h2.vec_shrink hcl
    have e : ((Lib.compact xs ++ List.replicate (xs.length - (Lib.compact xs).length) 0).toArray.toList.map (Value.int .i64)).take ((Lib.compact xs).length * 1) = (Lib.compact xs).map (Value.int .i64) := by
      rw [Nat.mul_one, List.toList_toArray, List.map_append, List.take_left' (by simp)]
    rw [e] at h3
    exact h3
theorem info_intE : (Try.prog.info? 3).map (fun i => (i.zero, i.size, i.bytes)) = some (some (.int .i64 0), 1, 8) := by kernel_rfl
/-- Who stands in the way of q, in the order of the queue; sorted, each once. -/
def blkL (l : List Rq) (q : Rq) : List Int := (l.filter fun o => blocksB o q).map (·.txn)
theorem blkL_snoc (l : List Rq) (q : Rq) (k : Nat) (h : k < l.length) : blkL (l.take (k + 1)) q = blkL (l.take k) q ++ (if blocksB (l.getD k default) q then [(l.getD k default).txn] else []) := by
  unfold blkL
  rw [take_snocQ l k h, List.filter_append, List.map_append]
  congr 1
  generalize l.getD k default = o
  cases hb : blocksB o q <;> simp [hb]
theorem blkL_len (l : List Rq) (q : Rq) : (blkL l q).length ≤ l.length := by
  unfold blkL
  rw [List.length_map]
  exact List.length_filter_le _ _
def nrm (xs : List Int) : List Int := Lib.compact (xs.mergeSort fun a b => decide (a ≤ b))
def blkV (l : List Rq) (id : Int) : List Int := if plc l id < 0 then [] else if 0 < (l.getD (plc l id).toNat default).since then nrm (blkL l (l.getD (plc l id).toNat default)) else []
theorem sorted_eq {xs ys : List Int} (hp : ys.Perm xs) (hs : ys.Pairwise (· ≤ ·)) : ys = xs.mergeSort fun a b => decide (a ≤ b) := by
  refine List.Perm.eq_of_pairwise (le := (· ≤ ·)) (fun a b _ _ h1 h2 => Int.le_antisymm h1 h2) hs ?_ (hp.trans (List.mergeSort_perm xs _).symm)
  have := List.pairwise_mergeSort (le := fun a b : Int => decide (a ≤ b)) (fun a b c h1 h2 => by simp at *; omega) (fun a b => by simp; omega) xs
  exact this.imp (fun {a b} h => by simpa using h)
set_option maxHeartbeats 1000000 in
theorem blockers_none (t r n : Int) (v : Value) (l : List Rq) (id0 : Int) (w : World) (hv : RQ w v l) (hl : l.length ≤ 1000) (hi : plc l id0 = -1) :
    Calls Try.prog 31 #[hval t r v n, .int .i64 id0] w fun e w' => e = .returned (.slice none 0 0) ∧ Below w.heap.size w w' := by
  have h0 := Lib.hid (fun b0 => (Sep.start w).alloc b0 29)
  have HF := Lib.hid (fun W hb => find_none t r n v l id0 W (hv.below hb) hl hi)
  obtain ⟨a, c, rfl, _⟩ := hv
  unfold hval Rq.val at *
  go_enter Try.func31, Try.ntmps31
  go_wp2_with fail
  refine (HF.out _ (h0.out _).tail.gold).mono ?_
  rintro e w1 ⟨rfl, b1⟩
  have hB := Lib.hid (((h0.out _).below b1).alloc #[.int .i64 0, .int .i64 0, .int .i64 0, .int .i64 0, .int .i64 0] 39)
  clear b1
  go_wp2_with fail
  go_ret
  exact ⟨rfl, hB.out.tail.tail.gold⟩
set_option maxHeartbeats 1000000 in
theorem blockers_calm (t r n : Int) (v : Value) (l : List Rq) (id0 : Int) (w : World) (hv : RQ w v l) (hl : l.length ≤ 1000) (i : Nat) (hi : plc l id0 = i) (hil : i < l.length) (hs : decide (0 < (l.getD i default).since) = false) :
    Calls Try.prog 31 #[hval t r v n, .int .i64 id0] w fun e w' => e = .returned (.slice none 0 0) ∧ Below w.heap.size w w' := by
  have h0 := Lib.hid (fun b0 => (Sep.start w).alloc b0 29)
  have HF := Lib.hid (fun W hb => find_some t r n v l id0 W (hv.below hb) hl i hi hil)
  have HW := Lib.hid (fun W => waits_any (l.getD i default) W)
  rw [hs] at HW
  obtain ⟨a, c, rfl, _⟩ := hv
  clear hs
  generalize l.getD i default = q at *
  obtain ⟨id, txn, mode, want, since⟩ := q
  unfold hval Rq.val at *
  simp only at HF HW
  go_enter Try.func31, Try.ntmps31
  go_wp2_with fail
  refine (HF.out _ (h0.out _).tail.gold).mono ?_
  rintro e w1 ⟨rfl, b1⟩
  have hB := Lib.hid (((h0.out _).below b1).alloc #[.int .i64 id, .int .i64 txn, .int .i64 mode, .int .i64 want, .int .i64 since] 39)
  obtain ⟨_, p0, p1, p2, p3, p4, _⟩ := hB.out.b5
  clear b1
  go_wp2_with fail
  refine (HW.out _).mono ?_
  rintro e w2 ⟨rfl, b2⟩
  replace hB := Lib.hid (hB.out.below b2)
  clear b2 p0 p1 p2 p3 p4
  go_wp2_with fail
  go_ret
  exact ⟨rfl, hB.out.tail.tail.gold⟩
set_option maxHeartbeats 2000000 in
set_option maxRecDepth 100000 in
theorem blockers_some (t r n : Int) (v : Value) (l : List Rq) (id0 : Int) (w : World) (hv : RQ w v l) (hl : l.length ≤ 1000) (i : Nat) (hi : plc l id0 = i) (hil : i < l.length) (hs : decide (0 < (l.getD i default).since) = true) :
    Calls Try.prog 31 #[hval t r v n, .int .i64 id0] w fun e w' => ∃ a c, e = .returned (.slice a (nrm (blkL l (l.getD i default))).length c) ∧ Sep w' [vec 3 1 (.slice a (nrm (blkL l (l.getD i default))).length c) (nrm (blkL l (l.getD i default))).length ((nrm (blkL l (l.getD i default))).map (Value.int .i64)), old w] := by
  have h0 := Lib.hid (fun b0 => (Sep.start w).alloc b0 29)
  have HF := Lib.hid (fun W hb => find_some t r n v l id0 W (hv.below hb) hl i hi hil)
  have HW := Lib.hid (fun W => waits_any (l.getD i default) W)
  rw [hs] at HW
  obtain ⟨a, c, rfl, hlc, _, hr⟩ := hv
  replace hr := Lib.hid hr
  clear hs hi hil
  generalize l.getD i default = q at *
  have hlen := Lib.hid (fun k => blkL_len (l.take k) q)
  have HBl := Lib.hid (fun o W => blocks_any o q W)
  have HSo := Lib.hid (fun a n c xs w rs h1 h2 h3 => sortInts_any a n c xs w rs h1 h2 h3)
  have HCo := Lib.hid (fun a n c xs w rs h1 h2 h3 => compactInts_any a n c xs w rs h1 h2 h3)
  have eg := eg_cmp
  obtain ⟨i0, hi, hz0, hz1, hz2⟩ := info_parts info_intE
  obtain ⟨R, hR⟩ : ∃ R, nrm (blkL l q) = R := ⟨_, rfl⟩
  rw [hR]
  replace hR := Lib.hid hR
  have hsn := Lib.hid (fun k h => blkL_snoc l q k h)
  obtain ⟨q', hq'⟩ : ∃ q', q = q' := ⟨_, rfl⟩
  rw [hq'] at HF HW HBl
  replace hq' := Lib.hid hq'
  obtain ⟨id, txn, mode, want, since⟩ := q'
  unfold hval Rq.val at *
  simp only at HF HW HBl
  generalize hm : l.length = m at *
  replace hm := Lib.hid hm
  go_enter Try.func31, Try.ntmps31
  go_wp2_with fail
  refine (HF.out _ (h0.out _).tail.gold).mono ?_
  rintro e w1 ⟨rfl, b1⟩
  have hB := Lib.hid (((h0.out _).below b1).alloc #[.int .i64 id, .int .i64 txn, .int .i64 mode, .int .i64 want, .int .i64 since] 39)
  obtain ⟨_, p0, p1, p2, p3, p4, _⟩ := hB.out.b5
  clear b1 HF h0
  go_wp2_with fail
  refine (HW.out _).mono ?_
  rintro e w2 ⟨rfl, b2⟩
  replace hB := Lib.hid (hB.out.below b2)
  clear b2 HW p0 p1 p2 p3 p4
  generalize w1.heap.size = RB at *
  obtain ⟨_, d0, d1, d2, d3, _⟩ := hB.out.to1.b4
  have hS := Lib.hid (hB.out.vec_nil 3 1)
  clear hB
  go_wp2_with fail
  go_loopw [7, 26] (fun s x wr => ∃ (k : Nat) (sv : Value), k ≤ m ∧ x = .int .i64 k ∧ sv = s ∧ Hid (Sep wr [vec 3 1 sv (blkL (l.take k) q).length ((blkL (l.take k) q).map (Value.int .i64)), blk RB 39 #[.int .i64 id, .int .i64 txn, .int .i64 mode, .int .i64 want, .int .i64 since], blk w.heap.size 29 #[.int .i64 t, .int .i64 r, .slice a m c, .int .i64 n], old w])) (fun _ x _ => m - (intOf x).toNat)
  case atStart => exact ⟨0, _, Nat.zero_le _, rfl, rfl, hS⟩
  case round =>
    clear hS d0 d1 d2 d3
    obtain ⟨k, sv, hk, rfl, rfl, hS⟩ := hrel
    obtain ⟨sa, sc, rfl⟩ := own_slice hS.out.gvec
    have hkl := hlen.out k
    by_cases hlt : k < m
    · obtain ⟨b, off, rfl, hbl, hz⟩ := hr.out (by have := hm.out; omega)
      obtain ⟨z0, z1, z2, z3, z4⟩ := hz k (by have := hm.out; omega)
      have kk : ∀ o, wr.cell? ⟨b, o, none⟩ = w.cell? ⟨b, o, none⟩ := fun o => hS.out.to3.gold.cell (p := ⟨b, o, none⟩) hbl
      rw [← kk] at z0 z1 z2 z3 z4
      have E := Lib.hid (hsn.out k hlt)
      have hkl2 : (blkL (l.take k) q).length ≤ k := Nat.le_trans hkl (by rw [List.length_take]; omega)
      have HB2 := Lib.hid (fun W => HBl.out (l.getD k default) W)
      have hS2 := hS.out.alloc (l.getD k default).cells.toArray 39
      rw [hq'.out] at E
      generalize hbv : blocksB (l.getD k default) ⟨id, txn, mode, want, since⟩ = bv at *
      replace hbv := Lib.hid hbv
      generalize l.getD k default = o at *
      obtain ⟨oid, otxn, omode, owant, osince⟩ := o
      simp only [Rq.cells] at hS2
      simp only at z0 z1 z2 z3 z4 E HB2
      rw [← hq'.out] at E
      replace hS2 := Lib.hid (show Sep _ [blk wr.heap.size 39 #[.int .i64 oid, .int .i64 otxn, .int .i64 omode, .int .i64 owant, .int .i64 osince], _, _, _, _] from hS2)
      obtain ⟨_, p0, p1, p2, p3, p4, _⟩ := hS2.out.b5
      obtain ⟨_, r0, r1, r2, r3, r4, _⟩ := hS2.out.to2.b5
      have i1 : (0 : Int) ≤ (k : Int) := by omega
      have i2 : (k : Int) < (m : Int) := by omega
      clear kk hz hkl
      go_wp2_with fail
      refine (HB2.out _).mono ?_
      rintro e w3 ⟨rfl, b3⟩
      replace hS2 := Lib.hid (hS2.out.below b3)
      generalize wr.heap.size = OB at *
      clear b3 HB2 p0 p1 p2 p3 p4 r0 r1 r2 r3 r4 z0 z1 z2 z3 z4 hS
      obtain ⟨_, p0, p1, p2, p3, p4, _⟩ := hS2.out.b5
      cases bv with
      | true =>
        rw [if_pos rfl] at E
        go_wp2_with (at_builtin; refine wpList_append_sep (hS2.out.to1.allocG _) rfl _ _ 30 rfl i0 (.int .i64 0) 8 Try.underlying30 hi hz0 hz1 hz2 rfl (by decide) rfl 1 [.int .i64 otxn] (SrcA.one _ _ _ _) ?c2 ?c3 ?c4 ?_)
        case c2 => simp [Value.oneCell']
        case c3 => simp only [maxLen]; omega
        case c4 => omega
        intro aa ca w5 hS5
        have hS6 : Hid (Sep w5 [vec 3 1 (.slice aa ((blkL (l.take k) q).length + 1) ca) (blkL (l.take (k + 1)) q).length ((blkL (l.take (k + 1)) q).map (Value.int .i64)), _, _, _]) := Lib.hid (by rw [E.out]; simpa using hS5.drop1)
        clear hS2 E hS5 p0 p1 p2 p3 p4
        go_wp2_with fail
        go_roundw
        case rel => exact ⟨k + 1, _, by omega, by go_num, rfl, hS6⟩
        case measure => simp [intOf]; omega
      | false =>
        rw [if_neg (by decide), List.append_nil] at E
        have hS6 : Hid (Sep w3 [vec 3 1 (.slice sa (blkL (l.take k) q).length sc) (blkL (l.take (k + 1)) q).length ((blkL (l.take (k + 1)) q).map (Value.int .i64)), _, _, _]) := Lib.hid (by rw [E.out]; exact hS2.out.tail)
        clear hS2 E p0 p1 p2 p3 p4
        go_wp2_with fail
        go_roundw
        case rel => exact ⟨k + 1, _, by omega, by go_num, rfl, hS6⟩
        case measure => simp [intOf]; omega
    · obtain rfl : k = m := by omega
      have e1 : l.take k = l := List.take_of_length_le (by rw [hm.out]; omega)
      rw [e1] at hS hkl ⊢
      clear hsn hlen hr HBl
      obtain ⟨xs, hxs⟩ : ∃ xs, blkL l q = xs := ⟨_, rfl⟩
      rw [hxs] at hS hkl ⊢
      have hR2 := hR.out
      rw [hxs] at hR2
      clear hR hxs e1
      have HS2 := Lib.hid (HSo.out sa xs.length sc xs wr _ hS.out rfl (by have := hm.out; omega))
      clear HSo
      go_wp2_with fail
      refine HS2.out.mono ?_
      rintro e w3 ⟨rfl, ys, hp, hso, hS3⟩
      have e2 := sorted_eq hp hso
      have HC2 := Lib.hid (HCo.out sa xs.length sc ys w3 _ hS3 hp.length_eq (by have := hm.out; omega))
      have e3 : Lib.compact ys = R := by rw [e2]; exact hR2
      rw [e3] at HC2
      clear HCo HS2 hS3 hS e2 e3 hR2 hp hso
      go_wp2_with fail
      refine HC2.out.mono ?_
      rintro e w4 ⟨rfl, hS4⟩
      replace hS4 := Lib.hid hS4
      clear HC2
      go_wp2_with fail
      go_ret
      exact ⟨_, _, rfl, hS4.out.drop1.drop1⟩
end Go.Proofs.Ytcnkmhfcgkbhbaa
namespace Go.Proofs.Ytcnkmhfcgkbhbaa
open Go.RowKit
theorem plc_at {n : Int} {l : List Rq} (h : Ord n l) (i : Nat) (hi : i < l.length) : plc l (l.getD i default).id = i := by
  have hd := checkB_ids n l ((ord_iff n l).2 h)
  have hn : ¬ plc l (l.getD i default).id < 0 := by
    intro hneg
    have := idxF_any (fun q : Rq => q.id == (l.getD i default).id) l 0
    unfold plc at hneg
    rw [decide_eq_false (by omega)] at this
    have h2 := List.any_eq_false.1 this.symm _ (getD_mem l i hi)
    simp at h2
  obtain ⟨j, h1, h2, h3⟩ := plc_spec l _ hn
  rw [h1, hd j i h2 hi h3]
end Go.Proofs.Ytcnkmhfcgkbhbaa
namespace Go.Proofs.Ytcnkmhfcgkbhbaa
open Go.RowKit
/-- Nothing can be granted. -/
def Calm (l : List Rq) : Prop := firstI l < 0 ∨ l.any (fitsP (l.getD (firstI l).toNat default)) = true
theorem scan_calm : ∀ (g : Nat) (l : List Rq) (ids : List Int), opens l ≤ g → Wants l → Calm (scanN g l ids).1
  | 0, l, ids, h, _ => by
    refine .inl ?_
    show firstI l < 0
    rcases Int.lt_or_le (firstI l) 0 with h1 | h1
    · exact h1
    · obtain ⟨i, _, hi, ho⟩ := firstI_spec l h1
      have : 0 < opens l := List.countP_pos_iff.2 ⟨_, getD_mem l i hi, ho⟩
      omega
  | g + 1, l, ids, h, hw => by
    unfold scanN
    split
    · rename_i h0
      exact .inl h0
    · rename_i h0
      split
      · rename_i h1
        exact .inr h1
      · obtain ⟨i, hi, hil, ho⟩ := firstI_spec l (by omega)
        rw [hi, Int.toNat_natCast]
        have := opens_grant l i hil ho (hw _ (getD_mem l i hil) ho)
        exact scan_calm g _ _ (by omega) (wants_grant l i hw hil ho)
theorem blk1 {o q : Rq} (h1 : o.id ≠ q.id) (h2 : o.mode ≠ 0) (h3 : comB o.mode q.want = false) : blocksB o q = true := by simp [blocksB, h1, h2, h3]
theorem blk2 {p q : Rq} (h1 : p.id ≠ q.id) (hu : upB p = true) (h : q.mode = 0 ∨ p.since < q.since) : blocksB p q = true := by
  unfold blocksB
  rw [if_neg (by simpa using h1)]
  by_cases hc : (p.mode != 0 && !comB p.mode q.want) = true
  · rw [if_pos hc]
  · rw [if_neg hc, if_pos hu]
    rcases h with h | h <;> simp [h]
theorem blk3 {p q : Rq} (h1 : p.id ≠ q.id) (hp : p.mode = 0) (hq : q.mode = 0) (h : p.since < q.since) : blocksB p q = true := by simp [blocksB, upB, h1, hp, hq, h]
/-- Who waits has somebody in its way. -/
theorem hold_blk {n : Int} {l : List Rq} (h : Ord n l) (hc : Calm l) (k : Nat) (hk : k < l.length) (hs : 0 < (l.getD k default).since) : ∃ o ∈ l, blocksB o (l.getD k default) = true := by
  have hq : ¬ firstI l < 0 := by
    intro h0
    obtain ⟨h1, h2⟩ := first_neg l h0 _ (getD_mem l k hk)
    simp only [upB, Bool.and_eq_false_iff, bne_eq_false_iff_eq, decide_eq_false_iff_not] at h2
    rcases h2 with h2 | h2
    · exact h1 h2
    · exact h2 hs
  obtain ⟨i, hi, hil, hop⟩ := firstI_spec l (by omega)
  have hfit := hc.resolve_left hq
  rw [hi, Int.toNat_natCast] at hfit
  obtain ⟨_, _, hw⟩ := first_pos l i hi
  have hne : ∀ a b, a < l.length → b < l.length → a ≠ b → (l.getD a default).id ≠ (l.getD b default).id ∧ (0 < (l.getD a default).since → 0 < (l.getD b default).since → (l.getD a default).since ≠ (l.getD b default).since) := by
    intro a b ha hb hab
    rcases Nat.lt_trichotomy a b with hlt | heq | hgt
    · obtain ⟨p1, _, p3, _⟩ := h.pair a b hlt hb
      exact ⟨p1, fun h1 _ => p3 h1⟩
    · exact absurd heq hab
    · obtain ⟨p1, _, p3, _⟩ := h.pair b a hgt ha
      exact ⟨fun e => p1 e.symm, fun _ h2 e => p3 h2 e.symm⟩
  by_cases hki : k = i
  · subst hki
    obtain ⟨o, ho, hf⟩ := List.any_eq_true.1 hfit
    simp only [fitsP, Bool.and_eq_true, bne_iff_ne, ne_eq, Bool.not_eq_true'] at hf
    exact ⟨o, ho, blk1 hf.1 hf.2.1 hf.2.2⟩
  · obtain ⟨hid, hsn⟩ := hne i k hil hk (fun e => hki e.symm)
    refine ⟨l.getD i default, getD_mem l i hil, ?_⟩
    rcases hw with ⟨hu, hmin⟩ | ⟨hm0, hno, hj⟩
    · have hu2 := hu
      simp only [upB, Bool.and_eq_true, bne_iff_ne, ne_eq, decide_eq_true_eq] at hu2
      refine blk2 hid hu ?_
      by_cases hqm : (l.getD k default).mode = 0
      · exact .inl hqm
      · have hle := hmin _ (getD_mem l k hk) (by simp only [upB, Bool.and_eq_true, bne_iff_ne, ne_eq, decide_eq_true_eq]; exact ⟨hqm, hs⟩)
        have hd := hsn hu2.2 hs
        exact .inr (by omega)
    · have hqm : (l.getD k default).mode = 0 := by
        have := hno _ (getD_mem l k hk)
        simp only [upB, Bool.and_eq_false_iff, bne_eq_false_iff_eq, decide_eq_false_iff_not] at this
        rcases this with h1 | h1
        · exact h1
        · exact absurd hs h1
      have hik : i < k := by
        rcases Nat.lt_trichotomy i k with h1 | h1 | h1
        · exact h1
        · exact absurd h1.symm hki
        · exact absurd hqm (hj k h1)
      obtain ⟨_, _, p3, p4, _⟩ := h.pair i k hik hk
      have hsi := ((h.right _ (getD_mem l i hil)).wait hop).1
      have h1 := (p4 hm0).2
      have h2 := p3 hsi
      exact blk3 hid hm0 hqm (by omega)
end Go.Proofs.Ytcnkmhfcgkbhbaa
