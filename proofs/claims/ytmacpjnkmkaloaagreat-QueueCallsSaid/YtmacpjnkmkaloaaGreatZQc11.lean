/-
  Contracts and plain laws that the walk leans on, part 11. No condition.
-/
import Derived.Test.YtmacpjnkmkaloaaGreatZQc10
import Derived.Shelf.SlSortCmp.Whole1
import Derived.Shelf.SlSortCmp.WholeK
import Derived.Shelf.SlSortCmp.NoneTotal
import Derived.Test.YtmacpjnkmkaloaaGreatProg
import Derived.Test.YtmacpjnkmkaloaaGreatChecked
import Derived.Shelf.SlicesG.Cmp
import Derived.Ground.SlsfProg
import Derived.Ground.SlgcProg
import Derived.Ground.Names2Prog
import Derived.Shelf.Slices.CompactI
namespace Go.Proofs.YtmacpjnkmkaloaaGreat
set_option linter.unusedSimpArgs false
set_option linter.unusedVariables false
set_option linter.unnecessarySimpa false
open Go.RowKit Go.Shelf Go.Sort
theorem size_putCells {α : Type} [Inhabited α] (enc : α → Value) (off : Nat) (d : Array α) (c : Array Value) : (putCells enc off d c).size = c.size := by simp [putCells]
theorem putCells_take {α : Type} [Inhabited α] (enc : α → Value) (d : Array α) (c : Array Value) (h : d.size ≤ c.size) : (putCells enc 0 d c).toList.take d.size = d.toList.map enc := by
  apply List.ext_getElem?
  intro j
  rw [List.getElem?_take]
  by_cases hj : j < d.size
  · rw [if_pos hj, Array.getElem?_toList, List.getElem?_map, Array.getElem?_toList, Array.getElem?_eq_getElem hj, Array.getElem?_eq_getElem (by rw [size_putCells]; omega)]
    simp [putCells, hj]
  · rw [if_neg hj, List.getElem?_eq_none (by simpa using hj)]
theorem heap_row {α : Type} [Inhabited α] (enc : α → Value) (w : World) (g m : Nat) (d : Array α) (os : Array Obj) (b : Nat) (hb : b < w.heap.size) :
    (grow (putRow enc (Go.Sort.ahead w m) g 0 d) os).heap[b]? = if g = b then (w.heap[b]?).map (onCells (putCells enc 0 d)) else w.heap[b]? := by
  simp only [grow, putRow, mapBlock, Go.Sort.ahead]
  rw [Array.getElem?_append_left (by simpa using hb), Array.getElem?_modify]
theorem Sep.blk_row {α : Type} [Inhabited α] {w : World} {g : Nat} {t : TypeId} {cs : Array Value} {rs : List Res} (h : Sep w (blk g t cs :: rs)) (enc : α → Value) (m : Nat) (d : Array α) (os : Array Obj) :
    Sep (grow (putRow enc (Go.Sort.ahead w m) g 0 d) os) (blk g t (putCells enc 0 d cs) :: rs) := by
  obtain ⟨A, h1, h2⟩ := h.open_
  have hlt := h1.2.lt
  have hsz : (grow (putRow enc (Go.Sort.ahead w m) g 0 d) os).heap.size = w.heap.size + os.size := by simp [grow, putRow, mapBlock, Go.Sort.ahead]
  refine h2 _ _ A ⟨h1.1, ?_⟩ ⟨rfl, rfl, rfl, by rw [hsz]; omega, fun b hb hA => ?_⟩ (fun b hb => .inl hb)
  · show (grow (putRow enc (Go.Sort.ahead w m) g 0 d) os).heap[g]? = _
    rw [heap_row enc w g m d os g hlt, if_pos rfl, show w.heap[g]? = _ from h1.2]
    rfl
  · rw [heap_row enc w g m d os b hb, if_neg]
    intro hgb
    exact hA ((h1.1 b).2 hgb.symm)
theorem Sep.vec_row {α : Type} [Inhabited α] {w : World} {e : TypeId} {size n g c : Nat} {xs : List Value} {rs : List Res} (h : Sep w (vec e size (.slice (some ⟨g, 0, none⟩) n c) n xs :: rs)) (enc : α → Value) (m : Nat) (d : Array α) (os : Array Obj) (hd : d.size = n * size) :
    Sep (grow (putRow enc (Go.Sort.ahead w m) g 0 d) os) (vec e size (.slice (some ⟨g, 0, none⟩) n c) n (d.toList.map enc) :: rs) := by
  obtain ⟨cur, hS, hnc, hcm, hcs, ht⟩ := h.vec_blk
  have hle : d.size ≤ cur.size := by rw [hd, hcs]; exact Nat.mul_le_mul_right _ hnc
  refine (hS.blk_row enc m d os).blk_vec (by simpa using hd) hnc hcm (by rw [size_putCells]; exact hcs) ?_
  rw [← hd]
  exact putCells_take enc d cur hle
theorem perm_list {α : Type} [Inhabited α] {d d' : Array α} (h : PermIn 0 d.size d d') : d'.size = d.size ∧ d'.toList.Perm d.toList := by
  refine ⟨h.1, ?_⟩
  have := h.2.2
  rw [show d.extract 0 d.size = d by simp, ← h.1, show d'.extract 0 d'.size = d' by simp] at this
  exact this
theorem sorted_list {α : Type} [Inhabited α] {lt : α → α → Bool} {d d' : Array α} (hs : d'.size = d.size) (h : SortedIn lt 0 d.size d') : d'.toList.Pairwise fun a b => lt b a = false := by
  rw [List.pairwise_iff_getElem]
  intro i j hi hj hij
  have h1 : i < d'.size := by simpa using hi
  have h2 : j < d'.size := by simpa using hj
  have := h i j (Nat.zero_le _) hij (by omega)
  rw [getElem!_pos d' j h2, getElem!_pos d' i h1] at this
  simpa using this
/-- A row of one cell each, held. -/
theorem Sep.vec_holds1 {α : Type} [Inhabited α] {w : World} {e : TypeId} {n g c : Nat} {rs : List Res} (enc : α → Value) (l : List α) (h : Sep w (vec e 1 (.slice (some ⟨g, 0, none⟩) n c) n (l.map enc) :: rs)) (_hl : l.length = n) : Holds enc w g 0 l.toArray ∧ g < w.heap.size := by
  refine ⟨fun j hj => ?_, ?_⟩
  · have hj' : j < l.length := by simpa using hj
    have := h.vec_cell (k := j) (u := enc l[j]) (by rw [List.getElem?_map, List.getElem?_eq_getElem hj']; rfl)
    rw [Nat.zero_add, getElem!_pos _ j hj]
    exact ⟨by simpa using this.1, this.2.1⟩
  · obtain ⟨cur, hS, _⟩ := h.vec_blk
    exact hS.gblk.lt
theorem swo_int : SWO (ltOf Lib.compareInt) := by
  have h : ∀ x y : Int, ltOf Lib.compareInt x y = decide (x < y) := fun x y => by
    unfold ltOf Lib.compareInt
    by_cases h1 : x < y
    · simp [h1]
    · by_cases h2 : y < x <;> simp [h1, h2]
  exact ⟨fun x => by rw [h]; simp, fun x y z h1 h2 => by rw [h] at *; simp at *; omega, fun x y z h1 h2 => by rw [h] at *; simp at *; omega⟩
theorem lt_int (x y : Int) : ltOf Lib.compareInt x y = decide (x < y) := by
  unfold ltOf Lib.compareInt
  by_cases h1 : x < y
  · simp [h1]
  · by_cases h2 : y < x <;> simp [h1, h2]
end Go.Proofs.YtmacpjnkmkaloaaGreat
namespace Go.Proofs
open Go.Shelf
def Tryz.sortInts_ren : Go.Shelf.Ren := ⟨fun | 6 => 67 | 15 => 85 | 14 => 84 | 28 => 99 | 29 => 100 | 20 => 91 | 21 => 92 | 22 => 93 | 23 => 94 | 24 => 95 | 25 => 96 | 26 => 97 | 27 => 98 | 46 => 101 | 47 => 102 | 48 => 103 | 49 => 104 | 50 => 105 | 57 => 106 | n => n, fun | 22 => 48 | 24 => 3 | 25 => 79 | 3 => 3 | 39 => 87 | 0 => 0 | 53 => 103 | 55 => 105 | 4 => 4 | 46 => 96 | 45 => 95 | 50 => 100 | 5 => 5 | 9 => 9 | 66 => 106 | 70 => 110 | 76 => 112 | 77 => 113 | n => n, fun | n => n⟩
theorem Tryz.sortInts : Go.Proofs.SlLaysF.n6 Tryz.prog Tryz.sortInts_ren := {
  mixed := by kernel_rfl
  f6 := ⟨Tryz.f67.name, by decide, Tryz.func67.trans (congrArg some (by kernel_rfl))⟩
  f14 := ⟨Tryz.f84.name, by decide, Tryz.func84.trans (congrArg some (by kernel_rfl))⟩
  f15 := Tryz.func85.trans (congrArg some (by kernel_rfl))
  f20 := ⟨Tryz.f91.name, by decide, Tryz.func91.trans (congrArg some (by kernel_rfl))⟩
  f21 := ⟨Tryz.f92.name, by decide, Tryz.func92.trans (congrArg some (by kernel_rfl))⟩
  f22 := ⟨Tryz.f93.name, by decide, Tryz.func93.trans (congrArg some (by kernel_rfl))⟩
  f23 := ⟨Tryz.f94.name, by decide, Tryz.func94.trans (congrArg some (by kernel_rfl))⟩
  f24 := ⟨Tryz.f95.name, by decide, Tryz.func95.trans (congrArg some (by kernel_rfl))⟩
  f25 := ⟨Tryz.f96.name, by decide, Tryz.func96.trans (congrArg some (by kernel_rfl))⟩
  f26 := ⟨Tryz.f97.name, by decide, Tryz.func97.trans (congrArg some (by kernel_rfl))⟩
  f27 := ⟨Tryz.f98.name, by decide, Tryz.func98.trans (congrArg some (by kernel_rfl))⟩
  f28 := Tryz.func99.trans (congrArg some (by kernel_rfl))
  f29 := Tryz.func100.trans (congrArg some (by kernel_rfl))
  f46 := ⟨Tryz.f101.name, by decide, Tryz.func101.trans (congrArg some (by kernel_rfl))⟩
  f47 := Tryz.func102.trans (congrArg some (by kernel_rfl))
  f48 := Tryz.func103.trans (congrArg some (by kernel_rfl))
  f49 := ⟨Tryz.f104.name, by decide, Tryz.func104.trans (congrArg some (by kernel_rfl))⟩
  f50 := ⟨Tryz.f105.name, by decide, Tryz.func105.trans (congrArg some (by kernel_rfl))⟩
  f57 := ⟨Tryz.f106.name, by decide, Tryz.func106.trans (congrArg some (by kernel_rfl))⟩
  t0 := Tryz.underlying0
  a0 := Tryz.isAgg0
  z0 := Tryz.sizeOf0
  v0 := Tryz.zeroValue0
  t3 := Tryz.underlying3
  a3 := Tryz.isAgg3
  z3 := Tryz.sizeOf3
  v3 := Tryz.zeroValue3
  t4 := Tryz.underlying4
  a4 := Tryz.isAgg4
  z4 := Tryz.sizeOf4
  v4 := Tryz.zeroValue4
  t5 := Tryz.underlying5
  a5 := Tryz.isAgg5
  z5 := Tryz.sizeOf5
  v5 := Tryz.zeroValue5
  t9 := Tryz.underlying9
  a9 := Tryz.isAgg9
  z9 := Tryz.sizeOf9
  v9 := Tryz.zeroValue9
  t22 := Tryz.underlying48
  a22 := Tryz.isAgg48
  z22 := Tryz.sizeOf48
  v22 := Tryz.zeroValue48
  a24 := Tryz.isAgg3
  z24 := Tryz.sizeOf3
  t25 := Tryz.underlying79
  a25 := Tryz.isAgg79
  z25 := Tryz.sizeOf79
  v25 := Tryz.zeroValue79
  t39 := Tryz.underlying87
  a39 := Tryz.isAgg87
  z39 := Tryz.sizeOf87
  v39 := Tryz.zeroValue87
  t45 := Tryz.underlying95
  a45 := Tryz.isAgg95
  z45 := Tryz.sizeOf95
  v45 := Tryz.zeroValue95
  t46 := Tryz.underlying96
  a46 := Tryz.isAgg96
  z46 := Tryz.sizeOf96
  v46 := Tryz.zeroValue96
  t50 := Tryz.underlying100
  a50 := Tryz.isAgg100
  z50 := Tryz.sizeOf100
  v50 := Tryz.zeroValue100
  t53 := Tryz.underlying103
  a53 := Tryz.isAgg103
  z53 := Tryz.sizeOf103
  v53 := Tryz.zeroValue103
  t55 := Tryz.underlying105
  a55 := Tryz.isAgg105
  z55 := Tryz.sizeOf105
  v55 := Tryz.zeroValue105
  t66 := Tryz.underlying106
  a66 := Tryz.isAgg106
  z66 := Tryz.sizeOf106
  v66 := Tryz.zeroValue106
  t70 := Tryz.underlying110
  a70 := Tryz.isAgg110
  z70 := Tryz.sizeOf110
  v70 := Tryz.zeroValue110
  t76 := Tryz.underlying112
  a76 := Tryz.isAgg112
  z76 := Tryz.sizeOf112
  v76 := Tryz.zeroValue112
  t77 := Tryz.underlying113
  a77 := Tryz.isAgg113
  z77 := Tryz.sizeOf113
  v77 := Tryz.zeroValue113 }
def Tryz.sortIntsZ_ren : Go.Shelf.Ren := ⟨fun | 6 => 67 | 15 => 85 | 14 => 84 | 28 => 99 | 29 => 100 | 20 => 91 | 21 => 92 | 22 => 93 | 23 => 94 | 24 => 95 | 25 => 96 | 26 => 97 | 27 => 98 | 46 => 101 | 47 => 102 | 48 => 103 | 49 => 104 | 50 => 105 | 57 => 106 | n => n, fun | 22 => 48 | 24 => 3 | 25 => 79 | 3 => 3 | 39 => 87 | 0 => 0 | 53 => 103 | 55 => 105 | 4 => 4 | 46 => 96 | 45 => 95 | 50 => 100 | 5 => 5 | 9 => 9 | 66 => 106 | 70 => 110 | 76 => 112 | 77 => 113 | n => n, fun | n => n⟩
theorem Tryz.sortIntsZ : Go.Proofs.SlLaysF0.n6 Tryz.prog Tryz.sortIntsZ_ren := {
  mixed := by kernel_rfl
  f6 := ⟨Tryz.f67.name, by decide, Tryz.func67.trans (congrArg some (by kernel_rfl))⟩
  f14 := ⟨Tryz.f84.name, by decide, Tryz.func84.trans (congrArg some (by kernel_rfl))⟩
  f15 := Tryz.func85.trans (congrArg some (by kernel_rfl))
  f20 := ⟨Tryz.f91.name, by decide, Tryz.func91.trans (congrArg some (by kernel_rfl))⟩
  f21 := ⟨Tryz.f92.name, by decide, Tryz.func92.trans (congrArg some (by kernel_rfl))⟩
  f22 := ⟨Tryz.f93.name, by decide, Tryz.func93.trans (congrArg some (by kernel_rfl))⟩
  f23 := ⟨Tryz.f94.name, by decide, Tryz.func94.trans (congrArg some (by kernel_rfl))⟩
  f24 := ⟨Tryz.f95.name, by decide, Tryz.func95.trans (congrArg some (by kernel_rfl))⟩
  f25 := ⟨Tryz.f96.name, by decide, Tryz.func96.trans (congrArg some (by kernel_rfl))⟩
  f26 := ⟨Tryz.f97.name, by decide, Tryz.func97.trans (congrArg some (by kernel_rfl))⟩
  f27 := ⟨Tryz.f98.name, by decide, Tryz.func98.trans (congrArg some (by kernel_rfl))⟩
  f28 := Tryz.func99.trans (congrArg some (by kernel_rfl))
  f29 := Tryz.func100.trans (congrArg some (by kernel_rfl))
  f46 := ⟨Tryz.f101.name, by decide, Tryz.func101.trans (congrArg some (by kernel_rfl))⟩
  f47 := Tryz.func102.trans (congrArg some (by kernel_rfl))
  f48 := Tryz.func103.trans (congrArg some (by kernel_rfl))
  f49 := ⟨Tryz.f104.name, by decide, Tryz.func104.trans (congrArg some (by kernel_rfl))⟩
  f50 := ⟨Tryz.f105.name, by decide, Tryz.func105.trans (congrArg some (by kernel_rfl))⟩
  f57 := ⟨Tryz.f106.name, by decide, Tryz.func106.trans (congrArg some (by kernel_rfl))⟩
  t0 := Tryz.underlying0
  a0 := Tryz.isAgg0
  z0 := Tryz.sizeOf0
  v0 := Tryz.zeroValue0
  t3 := Tryz.underlying3
  a3 := Tryz.isAgg3
  z3 := Tryz.sizeOf3
  v3 := Tryz.zeroValue3
  t4 := Tryz.underlying4
  a4 := Tryz.isAgg4
  z4 := Tryz.sizeOf4
  v4 := Tryz.zeroValue4
  t5 := Tryz.underlying5
  a5 := Tryz.isAgg5
  z5 := Tryz.sizeOf5
  v5 := Tryz.zeroValue5
  t9 := Tryz.underlying9
  a9 := Tryz.isAgg9
  z9 := Tryz.sizeOf9
  v9 := Tryz.zeroValue9
  t22 := Tryz.underlying48
  a22 := Tryz.isAgg48
  z22 := Tryz.sizeOf48
  v22 := Tryz.zeroValue48
  t25 := Tryz.underlying79
  a25 := Tryz.isAgg79
  z25 := Tryz.sizeOf79
  v25 := Tryz.zeroValue79
  t39 := Tryz.underlying87
  a39 := Tryz.isAgg87
  z39 := Tryz.sizeOf87
  v39 := Tryz.zeroValue87
  t45 := Tryz.underlying95
  a45 := Tryz.isAgg95
  z45 := Tryz.sizeOf95
  v45 := Tryz.zeroValue95
  t46 := Tryz.underlying96
  a46 := Tryz.isAgg96
  z46 := Tryz.sizeOf96
  v46 := Tryz.zeroValue96
  t50 := Tryz.underlying100
  a50 := Tryz.isAgg100
  z50 := Tryz.sizeOf100
  v50 := Tryz.zeroValue100
  t53 := Tryz.underlying103
  a53 := Tryz.isAgg103
  z53 := Tryz.sizeOf103
  v53 := Tryz.zeroValue103
  t55 := Tryz.underlying105
  a55 := Tryz.isAgg105
  z55 := Tryz.sizeOf105
  v55 := Tryz.zeroValue105
  t66 := Tryz.underlying106
  a66 := Tryz.isAgg106
  z66 := Tryz.sizeOf106
  v66 := Tryz.zeroValue106
  t70 := Tryz.underlying110
  a70 := Tryz.isAgg110
  z70 := Tryz.sizeOf110
  v70 := Tryz.zeroValue110
  t76 := Tryz.underlying112
  a76 := Tryz.isAgg112
  z76 := Tryz.sizeOf112
  v76 := Tryz.zeroValue112
  t77 := Tryz.underlying113
  a77 := Tryz.isAgg113
  z77 := Tryz.sizeOf113
  v77 := Tryz.zeroValue113 }
def Tryz.cmpInts_ren : Go.Shelf.Ren := ⟨fun | 5 => 68 | 7 => 86 | n => n, fun | 22 => 3 | 3 => 3 | 4 => 4 | n => n, fun | n => n⟩
theorem Tryz.cmpInts : Go.Proofs.SlLaysC2.n5 Tryz.prog Tryz.cmpInts_ren := {
  mixed := by kernel_rfl
  f5 := ⟨Tryz.f68.name, by decide, Tryz.func68.trans (congrArg some (by kernel_rfl))⟩
  f7 := ⟨Tryz.f86.name, by decide, Tryz.func86.trans (congrArg some (by kernel_rfl))⟩
  t3 := Tryz.underlying3
  a3 := Tryz.isAgg3
  z3 := Tryz.sizeOf3
  v3 := Tryz.zeroValue3
  t4 := Tryz.underlying4
  a4 := Tryz.isAgg4
  z4 := Tryz.sizeOf4
  v4 := Tryz.zeroValue4
  t22 := Tryz.underlying3
  a22 := Tryz.isAgg3
  z22 := Tryz.sizeOf3
  v22 := Tryz.zeroValue3 }
def Tryz.compactInts_ren : Go.Shelf.Ren := ⟨fun | 20 => 69 | n => n, fun | 22 => 48 | 3 => 3 | 4 => 4 | 0 => 0 | n => n, fun | n => n⟩
theorem Tryz.compactInts : Go.Proofs.Lays2.n20 Tryz.prog Tryz.compactInts_ren := {
  mixed := by kernel_rfl
  f20 := Tryz.func69.trans (congrArg some (by kernel_rfl))
  t0 := Tryz.underlying0
  a0 := Tryz.isAgg0
  z0 := Tryz.sizeOf0
  v0 := Tryz.zeroValue0
  t3 := Tryz.underlying3
  a3 := Tryz.isAgg3
  z3 := Tryz.sizeOf3
  v3 := Tryz.zeroValue3
  t4 := Tryz.underlying4
  a4 := Tryz.isAgg4
  z4 := Tryz.sizeOf4
  v4 := Tryz.zeroValue4
  t22 := Tryz.underlying48
  a22 := Tryz.isAgg48
  z22 := Tryz.sizeOf48
  v22 := Tryz.zeroValue48
  i3 := by kernel_rfl }
end Go.Proofs
namespace Go.Proofs.YtmacpjnkmkaloaaGreat
set_option linter.unusedSimpArgs false
set_option linter.unusedVariables false
set_option linter.unnecessarySimpa false
open Go.RowKit Go.Shelf Go.Sort
theorem compareI_any (x y : Int) (w : World) : Calls Tryz.prog 68 #[.int .i64 x, .int .i64 y] w fun e w' => e = .returned (.int .i64 (Lib.compareInt x y)) ∧ w' = w := AnyG.cmp_Compare_int Tryz.cmpInts x y w
theorem eg_cmp : ∀ args w, (callFunc 68 args).run Tryz.prog w = .ok (.enter 68 args) w := enters_of Tryz.func68 (by kernel_rfl) rfl
theorem sortInts_any (a : Option Addr) (n c : Nat) (xs : List Int) (w : World) (rs : List Res) (hS : Sep w (vec 3 1 (.slice a n c) n (xs.map (Value.int .i64)) :: rs)) (hl : xs.length = n) (hn : n ≤ 1000000) :
    Calls Tryz.prog 67 #[.slice a n c, .func (.func 68) #[] #[]] w fun e w' => e = .returned (.tuple #[]) ∧ ∃ ys : List Int, ys.Perm xs ∧ ys.Pairwise (· ≤ ·) ∧ Sep w' (vec 3 1 (.slice a n c) n (ys.map (Value.int .i64)) :: rs) := by
  rcases Nat.eq_zero_or_pos n with h0 | h0
  · subst h0
    have hx := List.eq_nil_of_length_eq_zero hl
    subst hx
    refine (AnyF.slices_SortFunc_none Tryz.sortIntsZ a c _ w).mono ?_
    rintro e w' ⟨rfl, rfl⟩
    exact ⟨rfl, [], List.Perm.refl _, List.Pairwise.nil, hS⟩
  · obtain ⟨g, rfl⟩ : ∃ g, a = some ⟨g, 0, none⟩ := by
      rcases hS.gvec.2 with ⟨_, h1⟩ | ⟨g, cap, cur, hv, _⟩
      · omega
      · injection hv with e1 _ _
        exact ⟨g, e1⟩
    obtain ⟨hH, hg⟩ := hS.vec_holds1 (Value.int .i64) xs hl
    have hcmp : CmpLays1 Tryz.prog 68 #[] (Value.int .i64) Lib.compareInt g 0 xs.toArray.size w := fun m os dk _ x y => (compareI_any x y _).mono fun e w' h => ⟨h.1, 0, #[], by rw [h.2, grow_empty]; rfl⟩
    have hcon := Any.slices_SortFunc Tryz.sortInts (Value.int .i64) (fun _ => rfl) Lib.compareInt swo_int 68 #[] g 0 c xs.toArray w eg_cmp hcmp hH hg (by simp; omega)
    rw [show xs.toArray.size = n by simp [hl]] at hcon
    refine Calls.mono (show Calls Tryz.prog 67 _ w _ from hcon) ?_
    rintro e w' ⟨rfl, d', m, os, hp, hs, rfl⟩
    rw [show n = xs.toArray.size by simp [hl]] at hp hs
    obtain ⟨hsz, hperm⟩ := perm_list hp
    have hsrt := sorted_list hsz hs
    refine ⟨rfl, d'.toList, by simpa using hperm, hsrt.imp (fun {a b} h => by rw [lt_int] at h; simpa using h), ?_⟩
    have := hS.vec_row (Value.int .i64) m d' os (by rw [hsz]; simp [hl])
    exact this
end Go.Proofs.YtmacpjnkmkaloaaGreat
namespace Go.Proofs.YtmacpjnkmkaloaaGreat
set_option linter.unusedSimpArgs false
set_option linter.unusedVariables false
set_option linter.unnecessarySimpa false
open Go.RowKit
theorem RI.of_ownE {w : World} {base : Nat} {e : TypeId} {v : Value} {n : Nat} {xs : List Int} (h : w.ownsRow base e 1 v n (xs.map (Value.int .i64))) : RI w v xs := by
  obtain ⟨a, c, rfl⟩ := own_slice h
  have hn : n = xs.length := by have := h.1; simp at this; omega
  subst hn
  refine ⟨a, c, rfl, fun h0 => ?_⟩
  obtain ⟨g, ha, _, hlt, hc⟩ := own_cells h h0
  refine ⟨g, 0, ha, hlt, fun j hj => ?_⟩
  have := hc j (by simpa using hj)
  rw [Nat.zero_add, this]
  simp [List.getD, hj]
theorem info_mode : (Tryz.prog.info? 27).map (fun i => (i.zero, i.size, i.bytes)) = some (some (.int .i64 0), 1, 8) := by kernel_rfl
/-- The modes of the first k. -/
def modesK (l : List Rq) (k : Nat) : List Int := (l.take k).map (·.mode)
theorem modesK_snoc (l : List Rq) (k : Nat) (h : k < l.length) : (modesK l (k + 1)).map (Value.int .i64) = (modesK l k).map (Value.int .i64) ++ [.int .i64 (l.getD k default).mode] := by unfold modesK; rw [take_snocQ l k h]; simp
theorem modesK_all (l : List Rq) (k : Nat) (h : l.length ≤ k) : modesK l k = l.map (·.mode) := by unfold modesK; rw [List.take_of_length_le h]
def supL (ms : List Int) : Int := ms.foldl supV 0
theorem supL_snoc (ms : List Int) (k : Nat) (h : k < ms.length) : supL (ms.take (k + 1)) = supV (supL (ms.take k)) (ms.getD k 0) := by
  unfold supL
  rw [List.take_add_one, List.foldl_append]
  simp [List.getD, h]
set_option maxHeartbeats 1000000 in
theorem mgroup_any (v : Value) (ms : List Int) (w : World) (hv : RI w v ms) (hl : ms.length ≤ 1000) :
    Calls Tryz.prog 64 #[v] w fun e w' => e = .returned (.int .i64 (supL ms)) ∧ Below w.heap.size w w' := by
  obtain ⟨a, c, rfl, hr⟩ := hv
  replace hr := Lib.hid hr
  have HS := Lib.hid (fun x y W => sup_any x y W)
  generalize hm : ms.length = m at *
  replace hm := Lib.hid hm
  go_enter Tryz.func64, Tryz.ntmps64
  go_wp2_with fail
  go_loopw [3, 8] (fun s x wr => ∃ k : Nat, k ≤ m ∧ x = .int .i64 k ∧ (∃ y, s = .int .i64 y ∧ Hid (y = supL (ms.take k))) ∧ Hid (Below w.heap.size w wr)) (fun _ x _ => m - (intOf x).toNat)
  case atStart => exact ⟨0, Nat.zero_le _, rfl, ⟨0, rfl, Lib.hid rfl⟩, Below.refl _ _⟩
  case round =>
    obtain ⟨k, hk, rfl, ⟨y, rfl, hy⟩, hb⟩ := hrel
    by_cases hlt : k < m
    · obtain ⟨b, off, rfl, hbl, hz⟩ := hr.out (by omega)
      have z0 := (hb.out.cell (p := ⟨b, off + k, none⟩) hbl).trans (hz k hlt)
      have E := Lib.hid (supL_snoc ms k (by rw [hm.out]; exact hlt))
      have HS2 := Lib.hid (fun W => HS.out y (ms.getD k 0) W)
      have hy2 := Lib.hid (show supV y (ms.getD k 0) = supL (ms.take (k + 1)) by rw [E.out, hy.out])
      generalize ms.getD k 0 = mk at *
      generalize supV y mk = y2 at *
      have i1 : (0 : Int) ≤ (k : Int) := by omega
      have i2 : (k : Int) < (m : Int) := by omega
      clear hz E hy
      go_wp2_with fail
      refine (HS2.out _).mono ?_
      rintro e w1 ⟨rfl, b1⟩
      replace hb := Lib.hid (hb.out.trans (b1.mono hb.out.size))
      clear b1 HS2 z0
      go_wp2_with fail
      go_roundw
      case rel => exact ⟨k + 1, by omega, by go_num, ⟨y2, rfl, hy2⟩, hb⟩
      case measure => simp [intOf]; omega
    · obtain rfl : k = m := by omega
      have hy2 := hy.out
      rw [List.take_of_length_le (by rw [hm.out]; omega)] at hy2
      replace hy2 := Lib.hid hy2
      clear hy
      go_wp2_with fail
      go_ret
      exact ⟨by rw [← hy2.out]; rfl, hb.out⟩
set_option maxHeartbeats 1000000 in
set_option maxRecDepth 100000 in
theorem group_any (t r n : Int) (v : Value) (l : List Rq) (w : World) (hv : RQ w v l) (hl : l.length ≤ 1000) :
    Calls Tryz.prog 25 #[hval t r v n] w fun e w' => e = .returned (.int .i64 (supL (l.map (·.mode)))) ∧ Below w.heap.size w w' := by
  have h0 : ∀ b0, Sep (w.alloc (.cells b0 26)) [blk w.heap.size 26 b0, old w] := fun b0 => (Sep.start w).alloc b0 26
  replace h0 := Lib.hid h0
  obtain ⟨a, c, rfl, hlc, _, hr⟩ := hv
  replace hr := Lib.hid hr
  have HG := Lib.hid (fun v ms W h hl => mgroup_any v ms W h hl)
  obtain ⟨i0, hi, hz0, hz1, hz2⟩ := info_parts info_mode
  obtain ⟨R, hRs⟩ : ∃ R, supL (l.map (·.mode)) = R := ⟨_, rfl⟩
  rw [hRs]
  replace hRs := Lib.hid hRs
  unfold hval
  generalize hm : l.length = m at *
  replace hm := Lib.hid hm
  have hS := Lib.hid ((h0.out #[.int .i64 t, .int .i64 r, .slice a m c, .int .i64 n]).vec_nil 27 1)
  clear h0
  go_enter Tryz.func25, Tryz.ntmps25
  go_wp2_with fail
  go_loopw [3, 9] (fun s x wr => ∃ (k : Nat) (sv : Value), k ≤ m ∧ x = .int .i64 k ∧ sv = s ∧ Hid (Sep wr [vec 27 1 sv k ((modesK l k).map (Value.int .i64)), blk w.heap.size 26 #[.int .i64 t, .int .i64 r, .slice a m c, .int .i64 n], old w])) (fun _ x _ => m - (intOf x).toNat)
  case atStart => exact ⟨0, _, Nat.zero_le _, rfl, rfl, hS⟩
  case round =>
    clear hS
    obtain ⟨k, sv, hk, rfl, rfl, hS⟩ := hrel
    obtain ⟨sa, sc, rfl⟩ := own_slice hS.out.gvec
    by_cases hlt : k < m
    · obtain ⟨b, off, rfl, hbl, hz⟩ := hr.out (by have := hm.out; omega)
      obtain ⟨z0, z1, z2, z3, z4⟩ := hz k (by have := hm.out; omega)
      have kk : ∀ o, wr.cell? ⟨b, o, none⟩ = w.cell? ⟨b, o, none⟩ := fun o => hS.out.to2.gold.cell (p := ⟨b, o, none⟩) hbl
      rw [← kk] at z0 z1 z2 z3 z4
      have E := Lib.hid (modesK_snoc l k (by rw [hm.out]; exact hlt))
      have hS2 := hS.out.alloc (l.getD k default).cells.toArray 42
      generalize l.getD k default = q at *
      obtain ⟨id, txn, mode, want, since⟩ := q
      simp only [Rq.cells] at hS2
      simp only at z0 z1 z2 z3 z4 E
      replace hS2 := Lib.hid (show Sep _ [blk wr.heap.size 42 #[.int .i64 id, .int .i64 txn, .int .i64 mode, .int .i64 want, .int .i64 since], _, _, _] from hS2)
      obtain ⟨_, p0, p1, p2, p3, p4, _⟩ := hS2.out.b5
      have i1 : (0 : Int) ≤ (k : Int) := by omega
      have i2 : (k : Int) < (m : Int) := by omega
      have hsrc := SrcA.one (wr.alloc (.cells #[.int .i64 id, .int .i64 txn, .int .i64 mode, .int .i64 want, .int .i64 since] 42)) (.int .i64 mode) 27 1
      rw [World.size_alloc] at hsrc
      replace hsrc := Lib.hid hsrc
      clear kk hz
      go_wp2_with (at_builtin; refine wpList_append_sep (hS2.out.to1.allocG _) rfl _ _ 75 rfl i0 (.int .i64 0) 8 Tryz.underlying75 hi hz0 hz1 hz2 rfl (by decide) rfl 1 [.int .i64 mode] hsrc.out ?c2 ?c3 ?c4 ?_)
      case c2 => simp [Value.oneCell']
      case c3 => simp only [maxLen]; omega
      case c4 => omega
      intro aa ca w5 hS5
      rw [← E.out] at hS5
      replace hS5 := Lib.hid hS5.drop1
      clear hS2 hS E
      go_wp2_with fail
      go_roundw
      case rel => exact ⟨k + 1, _, by omega, by go_num, rfl, hS5⟩
      case measure => simp [intOf]; omega
    · obtain rfl : k = m := by omega
      have hS3 := hS.out
      rw [modesK_all l k (by rw [hm.out]; omega)] at hS3
      obtain ⟨ms, hms⟩ : ∃ ms, l.map (·.mode) = ms := ⟨_, rfl⟩
      rw [hms] at hS3
      have hml : ms.length ≤ 1000 := by rw [← hms, List.length_map, hm.out]; exact hl
      have hRm := hRs.out
      rw [hms] at hRm
      have HX := Lib.hid (HG.out (.slice sa k sc) ms wr (RI.of_ownE hS3.gvec) hml)
      rw [hRm] at HX
      replace hS3 := Lib.hid hS3
      clear hS HG hRm hms hml
      go_wp2_with fail
      refine HX.out.mono ?_
      rintro e w1 ⟨rfl, b1⟩
      replace hS3 := Lib.hid (hS3.out.below b1)
      clear b1 HX
      go_wp2_with fail
      go_ret
      exact ⟨rfl, hS3.out.tail.tail.gold⟩
end Go.Proofs.YtmacpjnkmkaloaaGreat
namespace Go.Proofs.YtmacpjnkmkaloaaGreat
set_option linter.unusedSimpArgs false
set_option linter.unusedVariables false
set_option linter.unnecessarySimpa false
open Go.RowKit
/-- The smallest that covers both, of the modes from 6 down to 7 - j. -/
def supJ (a b : Int) : Nat → Int
  | 0 => 6
  | j + 1 => if (covB (6 - (j : Int)) a && (covB (6 - (j : Int)) b && covB (supJ a b j) (6 - (j : Int)))) = true then 6 - (j : Int) else supJ a b j
theorem supJ_all : ∀ i, i < 7 → ∀ j, j < 7 → supJ (i : Nat) (j : Nat) 7 = supV (i : Nat) (j : Nat) := by decide +kernel
theorem known_lt {m : Int} (h : knownB m = true) : ∃ k : Nat, m = (k : Int) ∧ k < 7 := by
  unfold knownB at h
  simp only [Bool.and_eq_true, decide_eq_true_eq] at h
  exact ⟨m.toNat, by omega, by omega⟩
theorem supJ_eq (a b : Int) (ha : knownB a = true) (hb : knownB b = true) : supJ a b 7 = supV a b := by
  obtain ⟨i, rfl, hi⟩ := known_lt ha
  obtain ⟨j, rfl, hj⟩ := known_lt hb
  exact supJ_all i hi j hj
set_option maxHeartbeats 2000000 in
theorem supR_any (a b : Int) (w : World) : Calls Tryz.prog 57 #[.int .i64 a, .int .i64 b] w fun e w' => e = .returned (.int .i64 (supV a b)) ∧ Below w.heap.size w w' := by
  have HK := Lib.hid (fun m W => knownR_any m W)
  have HK1 := Lib.hid (fun W => knownR_any a W)
  have HK2 := Lib.hid (fun W => knownR_any b W)
  have hb0 := Lib.hid (Below.refl w.heap.size w)
  cases ha : knownB a with
  | false =>
    have E := Lib.hid (show supV a b = 0 by simp [supV, ha])
    rw [ha] at HK1
    go_enter Tryz.func57, Tryz.ntmps57
    go_wp2_with fail
    refine (HK1.out _).mono ?_
    rintro e w1 ⟨rfl, rfl⟩
    go_wp2_with fail
    all_goals go_ret
    all_goals exact ⟨by rw [E.out]; rfl, hb0.out⟩
  | true =>
  rw [ha] at HK1
  cases hb : knownB b with
  | false =>
    have E := Lib.hid (show supV a b = 0 by simp [supV, hb])
    rw [hb] at HK2
    go_enter Tryz.func57, Tryz.ntmps57
    go_wp2_with fail
    refine (HK1.out _).mono ?_
    rintro e w1 ⟨rfl, rfl⟩
    go_wp2_with fail
    refine (HK2.out _).mono ?_
    rintro e w1 ⟨rfl, rfl⟩
    go_wp2_with fail
    all_goals go_ret
    all_goals exact ⟨by rw [E.out]; rfl, hb0.out⟩
  | true =>
  have E := Lib.hid (supJ_eq a b ha hb)
  rw [hb] at HK2
  clear ha hb HK
  go_enter Tryz.func57, Tryz.ntmps57
  go_wp2_with fail
  refine (HK1.out _).mono ?_
  rintro e w1 ⟨rfl, rfl⟩
  go_wp2_with fail
  refine (HK2.out _).mono ?_
  rintro e w1 ⟨rfl, rfl⟩
  clear HK1 HK2
  go_wp2_with fail
  go_loopg [5, 6] 7 (fun g s5 s6 wr => ∃ (j : Nat) (m y : Int), j ≤ 7 ∧ g = 7 - j ∧ s5 = .int .i64 y ∧ s6 = .int .i64 m ∧ Hid (y = supJ a b j) ∧ Hid (m = 6 - (j : Int)) ∧ Hid (Below w.heap.size w wr))
  case atStart => exact ⟨0, 6, 6, by omega, rfl, rfl, rfl, Lib.hid rfl, Lib.hid rfl, hb0⟩
  case round =>
    clear hb0
    obtain ⟨j, m, y, hj, hg, rfl, rfl, hy, hm, hbw⟩ := hrel
    by_cases hlt : j < 7
    · have i0 : (0 : Int) ≤ m := by have := hm.out; omega
      have iw : IntKind.i64.wrap (m - 1) = m - 1 := IntWalk.i64_in _ (by have := hm.out; omega)
      have hm2 := Lib.hid (show m - 1 = 6 - ((j + 1 : Nat) : Int) by have := hm.out; omega)
      have hj2 := Lib.hid (show j + 1 ≤ 7 from hlt)
      have E2 := Lib.hid (show supJ a b (j + 1) = if (covB m a && (covB m b && covB y m)) = true then m else y by rw [supJ, hm.out, hy.out])
      have H1 := Lib.hid (fun W => coversR_any m a W)
      have H2 := Lib.hid (fun W => coversR_any m b W)
      have H3 := Lib.hid (fun W => coversR_any y m W)
      replace hg := Lib.hid hg
      cases h1 : covB m a with
      | false =>
        rw [h1] at H1
        have E3 := Lib.hid (show y = supJ a b (j + 1) by rw [E2.out, h1]; rfl)
        go_wp2_with fail
        refine (H1.out _).mono ?_
        rintro e w1 ⟨rfl, q⟩
        replace hbw := Lib.hid (hbw.out.trans (q.mono hbw.out.size))
        clear q H1 H2 H3
        go_wp2_with fail
        go_roundg (7 - (j + 1))
        case measure => have := hg.out; have := hj2.out; omega
        case rel => exact ⟨j + 1, m - 1, y, hj2.out, rfl, rfl, by go_num, E3, hm2, hbw⟩
      | true =>
      rw [h1] at H1
      cases h2 : covB m b with
      | false =>
        rw [h2] at H2
        have E3 := Lib.hid (show y = supJ a b (j + 1) by rw [E2.out, h1, h2]; rfl)
        go_wp2_with fail
        refine (H1.out _).mono ?_
        rintro e w1 ⟨rfl, q⟩
        replace hbw := Lib.hid (hbw.out.trans (q.mono hbw.out.size))
        clear q H1
        go_wp2_with fail
        refine (H2.out _).mono ?_
        rintro e w2 ⟨rfl, q⟩
        replace hbw := Lib.hid (hbw.out.trans (q.mono hbw.out.size))
        clear q H2 H3
        go_wp2_with fail
        go_roundg (7 - (j + 1))
        case measure => have := hg.out; have := hj2.out; omega
        case rel => exact ⟨j + 1, m - 1, y, hj2.out, rfl, rfl, by go_num, E3, hm2, hbw⟩
      | true =>
      rw [h2] at H2
      cases h3 : covB y m with
      | false =>
        rw [h3] at H3
        have E3 := Lib.hid (show y = supJ a b (j + 1) by rw [E2.out, h1, h2, h3]; rfl)
        go_wp2_with fail
        refine (H1.out _).mono ?_
        rintro e w1 ⟨rfl, q⟩
        replace hbw := Lib.hid (hbw.out.trans (q.mono hbw.out.size))
        clear q H1
        go_wp2_with fail
        refine (H2.out _).mono ?_
        rintro e w2 ⟨rfl, q⟩
        replace hbw := Lib.hid (hbw.out.trans (q.mono hbw.out.size))
        clear q H2
        go_wp2_with fail
        refine (H3.out _).mono ?_
        rintro e w3 ⟨rfl, q⟩
        replace hbw := Lib.hid (hbw.out.trans (q.mono hbw.out.size))
        clear q H3
        go_wp2_with fail
        go_roundg (7 - (j + 1))
        case measure => have := hg.out; have := hj2.out; omega
        case rel => exact ⟨j + 1, m - 1, y, hj2.out, rfl, rfl, by go_num, E3, hm2, hbw⟩
      | true =>
        rw [h3] at H3
        have E3 := Lib.hid (show m = supJ a b (j + 1) by rw [E2.out, h1, h2, h3]; rfl)
        go_wp2_with fail
        refine (H1.out _).mono ?_
        rintro e w1 ⟨rfl, q⟩
        replace hbw := Lib.hid (hbw.out.trans (q.mono hbw.out.size))
        clear q H1
        go_wp2_with fail
        refine (H2.out _).mono ?_
        rintro e w2 ⟨rfl, q⟩
        replace hbw := Lib.hid (hbw.out.trans (q.mono hbw.out.size))
        clear q H2
        go_wp2_with fail
        refine (H3.out _).mono ?_
        rintro e w3 ⟨rfl, q⟩
        replace hbw := Lib.hid (hbw.out.trans (q.mono hbw.out.size))
        clear q H3
        go_wp2_with fail
        go_roundg (7 - (j + 1))
        case measure => have := hg.out; have := hj2.out; omega
        case rel => exact ⟨j + 1, m - 1, m, hj2.out, rfl, rfl, by go_num, E3, hm2, hbw⟩
    · obtain rfl : j = 7 := by omega
      have i0 : ¬ (0 : Int) ≤ m := by have := hm.out; omega
      have E3 := Lib.hid (hy.out.trans E.out)
      go_wp2_with fail
      go_ret
      exact ⟨by rw [← E3.out]; rfl, hbw.out⟩
set_option maxHeartbeats 1000000 in
theorem mgroupR_any (v : Value) (ms : List Int) (w : World) (hv : RI w v ms) (hl : ms.length ≤ 1000) :
    Calls Tryz.prog 65 #[v] w fun e w' => e = .returned (.int .i64 (supL ms)) ∧ Below w.heap.size w w' := by
  obtain ⟨a, c, rfl, hr⟩ := hv
  replace hr := Lib.hid hr
  have HS := Lib.hid (fun x y W => supR_any x y W)
  generalize hm : ms.length = m at *
  replace hm := Lib.hid hm
  go_enter Tryz.func65, Tryz.ntmps65
  go_wp2_with fail
  go_loopw [3, 4] (fun s x wr => ∃ k : Nat, k ≤ m ∧ x = .int .i64 k ∧ (∃ y, s = .int .i64 y ∧ Hid (y = supL (ms.take k))) ∧ Hid (Below w.heap.size w wr)) (fun _ x _ => m - (intOf x).toNat)
  case atStart => exact ⟨0, Nat.zero_le _, rfl, ⟨0, rfl, Lib.hid rfl⟩, Below.refl _ _⟩
  case round =>
    obtain ⟨k, hk, rfl, ⟨y, rfl, hy⟩, hb⟩ := hrel
    by_cases hlt : k < m
    · obtain ⟨b, off, rfl, hbl, hz⟩ := hr.out (by omega)
      have z0 := (hb.out.cell (p := ⟨b, off + k, none⟩) hbl).trans (hz k hlt)
      have E := Lib.hid (supL_snoc ms k (by rw [hm.out]; exact hlt))
      have HS2 := Lib.hid (fun W => HS.out y (ms.getD k 0) W)
      have hy2 := Lib.hid (show supV y (ms.getD k 0) = supL (ms.take (k + 1)) by rw [E.out, hy.out])
      generalize ms.getD k 0 = mk at *
      generalize supV y mk = y2 at *
      have i1 : (0 : Int) ≤ (k : Int) := by omega
      have i2 : (k : Int) < (m : Int) := by omega
      clear hz E hy
      go_wp2_with fail
      refine (HS2.out _).mono ?_
      rintro e w1 ⟨rfl, b1⟩
      replace hb := Lib.hid (hb.out.trans (b1.mono hb.out.size))
      clear b1 HS2 z0
      go_wp2_with fail
      go_roundw
      case rel => exact ⟨k + 1, by omega, by go_num, ⟨y2, rfl, hy2⟩, hb⟩
      case measure => simp [intOf]; omega
    · obtain rfl : k = m := by omega
      have hy2 := hy.out
      rw [List.take_of_length_le (by rw [hm.out]; omega)] at hy2
      replace hy2 := Lib.hid hy2
      clear hy
      go_wp2_with fail
      go_ret
      exact ⟨by rw [← hy2.out]; rfl, hb.out⟩
set_option maxHeartbeats 1000000 in
set_option maxRecDepth 100000 in
theorem groupR_any (t r n : Int) (v : Value) (l : List Rq) (w : World) (hv : RQ w v l) (hl : l.length ≤ 1000) :
    Calls Tryz.prog 26 #[hval t r v n] w fun e w' => e = .returned (.int .i64 (supL (l.map (·.mode)))) ∧ Below w.heap.size w w' := by
  have h0 : ∀ b0, Sep (w.alloc (.cells b0 26)) [blk w.heap.size 26 b0, old w] := fun b0 => (Sep.start w).alloc b0 26
  replace h0 := Lib.hid h0
  obtain ⟨a, c, rfl, hlc, _, hr⟩ := hv
  replace hr := Lib.hid hr
  have HG := Lib.hid (fun v ms W h hl => mgroupR_any v ms W h hl)
  obtain ⟨i0, hi, hz0, hz1, hz2⟩ := info_parts info_mode
  obtain ⟨R, hRs⟩ : ∃ R, supL (l.map (·.mode)) = R := ⟨_, rfl⟩
  rw [hRs]
  replace hRs := Lib.hid hRs
  unfold hval
  generalize hm : l.length = m at *
  replace hm := Lib.hid hm
  have hS := Lib.hid ((h0.out #[.int .i64 t, .int .i64 r, .slice a m c, .int .i64 n]).vec_nil 27 1)
  clear h0
  go_enter Tryz.func26, Tryz.ntmps26
  go_wp2_with fail
  go_loopw [3, 4] (fun s x wr => ∃ (k : Nat) (sv : Value), k ≤ m ∧ x = .int .i64 k ∧ sv = s ∧ Hid (Sep wr [vec 27 1 sv k ((modesK l k).map (Value.int .i64)), blk w.heap.size 26 #[.int .i64 t, .int .i64 r, .slice a m c, .int .i64 n], old w])) (fun _ x _ => m - (intOf x).toNat)
  case atStart => exact ⟨0, _, Nat.zero_le _, rfl, rfl, hS⟩
  case round =>
    clear hS
    obtain ⟨k, sv, hk, rfl, rfl, hS⟩ := hrel
    obtain ⟨sa, sc, rfl⟩ := own_slice hS.out.gvec
    obtain ⟨_, b0, b1, b2, b3, _⟩ := hS.out.to1.b4
    by_cases hlt : k < m
    · obtain ⟨b, off, rfl, hbl, hz⟩ := hr.out (by have := hm.out; omega)
      obtain ⟨z0, z1, z2, z3, z4⟩ := hz k (by have := hm.out; omega)
      have kk : ∀ o, wr.cell? ⟨b, o, none⟩ = w.cell? ⟨b, o, none⟩ := fun o => hS.out.to2.gold.cell (p := ⟨b, o, none⟩) hbl
      rw [← kk] at z0 z1 z2 z3 z4
      have E := Lib.hid (modesK_snoc l k (by rw [hm.out]; exact hlt))
      generalize l.getD k default = q at *
      obtain ⟨id, txn, mode, want, since⟩ := q
      simp only at z0 z1 z2 z3 z4 E
      have i1 : (0 : Int) ≤ (k : Int) := by omega
      have i2 : (k : Int) < (m : Int) := by omega
      have hsrc := Lib.hid (SrcA.one wr (.int .i64 mode) 27 1)
      clear kk hz
      go_wp2_with (at_builtin; refine wpList_append_sep (hS.out.allocG _) rfl _ _ 75 rfl i0 (.int .i64 0) 8 Tryz.underlying75 hi hz0 hz1 hz2 rfl (by decide) rfl 1 [.int .i64 mode] hsrc.out ?c2 ?c3 ?c4 ?_)
      case c2 => simp [Value.oneCell']
      case c3 => simp only [maxLen]; omega
      case c4 => omega
      intro aa ca w5 hS5
      rw [← E.out] at hS5
      replace hS5 := Lib.hid hS5
      clear hS E
      go_wp2_with fail
      go_roundw
      case rel => exact ⟨k + 1, _, by omega, by go_num, rfl, hS5⟩
      case measure => simp [intOf]; omega
    · obtain rfl : k = m := by omega
      have hS3 := hS.out
      rw [modesK_all l k (by rw [hm.out]; omega)] at hS3
      obtain ⟨ms, hms⟩ : ∃ ms, l.map (·.mode) = ms := ⟨_, rfl⟩
      rw [hms] at hS3
      have hml : ms.length ≤ 1000 := by rw [← hms, List.length_map, hm.out]; exact hl
      have hRm := hRs.out
      rw [hms] at hRm
      have HX := Lib.hid (HG.out (.slice sa k sc) ms wr (RI.of_ownE hS3.gvec) hml)
      rw [hRm] at HX
      replace hS3 := Lib.hid hS3
      clear hS HG hRm hms hml
      go_wp2_with fail
      refine HX.out.mono ?_
      rintro e w6 ⟨rfl, q⟩
      have hg := Lib.hid (hS3.out.below q).to2.gold
      clear q HX
      go_wp2_with fail
      go_ret
      exact ⟨rfl, hg.out⟩
theorem modeOf_hit (l : List Rq) (t0 : Int) (k : Nat) (h : idxF (fun q => q.txn == t0) l 0 = (k : Int)) : modeOf l t0 = (l.getD k default).mode := by
  unfold modeOf
  rw [if_neg (by omega), h]
  rfl
theorem modeOf_miss (l : List Rq) (t0 : Int) (h : idxF (fun q => q.txn == t0) l 0 = -1) : modeOf l t0 = 0 := by
  unfold modeOf
  rw [if_pos (by omega)]
theorem modeR_any (t r n : Int) (v : Value) (l : List Rq) (t0 : Int) (w : World) (hv : RQ w v l) (hl : l.length ≤ 1000) :
    Calls Tryz.prog 24 #[hval t r v n, .int .i64 t0] w fun e w' => e = .returned (.int .i64 (modeOf l t0)) ∧ Below w.heap.size w w' := by
  have h0 : ∀ b0, Sep (w.alloc (.cells b0 26)) [blk w.heap.size 26 b0, old w] := fun b0 => (Sep.start w).alloc b0 26
  replace h0 := Lib.hid h0
  have hhit := Lib.hid (fun k h => modeOf_hit l t0 k h)
  have hmiss := Lib.hid (modeOf_miss l t0)
  obtain ⟨a, c, rfl, hlc, _, hr⟩ := hv
  replace hr := Lib.hid hr
  obtain ⟨R, hRs⟩ : ∃ R, modeOf l t0 = R := ⟨_, rfl⟩
  rw [hRs] at hhit hmiss ⊢
  clear hRs
  unfold hval
  go_enter Tryz.func24, Tryz.ntmps24
  go_wp2_with fail
  have hS := Lib.hid (h0.out #[.int .i64 t, .int .i64 r, .slice a l.length c, .int .i64 n])
  clear h0
  generalize hn : l.length = m at *
  replace hn := Lib.hid hn
  generalize hp : (fun q : Rq => q.txn == t0) = p at *
  replace hp := Lib.hid hp
  go_loopg [5] m (fun g i wr => ∃ k : Nat, k ≤ m ∧ g = m - k ∧ i = .int .i64 k ∧ Hid (idxF p l 0 = idxF p (l.drop k) k) ∧ Hid (Sep wr [blk w.heap.size 26 #[.int .i64 t, .int .i64 r, .slice a m c, .int .i64 n], old w]))
  case atStart => exact ⟨0, Nat.zero_le _, rfl, rfl, rfl, hS⟩
  case round =>
    clear hS
    obtain ⟨k, hk, hg, rfl, he, hS⟩ := hrel
    obtain ⟨x1, d0, d1, x2, d3, _⟩ := hS.out.b4
    by_cases hlt : k < m
    · obtain ⟨b, off, rfl, hbl, hz⟩ := hr.out (by have := hn.out; omega)
      have z1 := (hz k (by have := hn.out; omega)).2.1
      have z2 := (hz k (by have := hn.out; omega)).2.2.1
      rw [← hS.out.to1.gold.cell (by exact hbl)] at z1 z2
      have E := Lib.hid (drop_at l k (by rw [hn.out]; exact hlt))
      have hpq := Lib.hid (show p (l.getD k default) = ((l.getD k default).txn == t0) by rw [← hp.out])
      have hh := Lib.hid (fun h => hhit.out k h)
      have i1 : (0 : Int) ≤ (k : Int) := by omega
      have i2 : (k : Int) < (m : Int) := by omega
      clear hz hr
      generalize l.getD k default = q at *
      cases hc : q.txn == t0 with
      | true =>
        have E2 := Lib.hid (show idxF p l 0 = (k : Int) by rw [he.out, E.out]; simp only [idxF, hpq.out, hc, if_true])
        have E3 := Lib.hid (hh.out E2.out)
        go_wp2_with fail
        go_ret
        exact ⟨by rw [E3.out]; rfl, hS.out.to1.gold⟩
      | false =>
        have E2 := Lib.hid (show idxF p l 0 = idxF p (l.drop (k + 1)) (k + 1) by rw [he.out, E.out]; simp only [idxF, hpq.out, hc]; rfl)
        go_wp2_with fail
        go_roundg (m - (k + 1))
        case measure => omega
        case rel => exact ⟨k + 1, by omega, rfl, by go_num, E2, hS⟩
    · have hk2 : k = m := by omega
      have E := Lib.hid (show idxF p l 0 = -1 by rw [he.out, List.drop_eq_nil_of_le (by rw [hn.out]; omega)]; rfl)
      have E3 := Lib.hid (hmiss.out E.out)
      clear he
      go_wp2_with fail
      go_ret
      exact ⟨by rw [E3.out]; rfl, hS.out.to1.gold⟩
theorem findR_none (t r n : Int) (v : Value) (l : List Rq) (id0 : Int) (w : World) (hv : RQ w v l) (hl : l.length ≤ 1000) (hi : plc l id0 = -1) :
    Calls Tryz.prog 22 #[hval t r v n, .int .i64 id0] w fun e w' => e = .returned (.tuple #[.agg #[.int .i64 0, .int .i64 0, .int .i64 0, .int .i64 0, .int .i64 0], .bool false]) ∧ Below w.heap.size w w' := by
  have hB := Lib.hid (boxes2 w 26 42 #[.int .i64 t, .int .i64 r, v, .int .i64 n] #[.int .i64 0, .int .i64 0, .int .i64 0, .int .i64 0, .int .i64 0])
  have hb2 := two_boxes w #[.int .i64 t, .int .i64 r, v, .int .i64 n] #[.int .i64 0, .int .i64 0, .int .i64 0, .int .i64 0, .int .i64 0] 26 42
  have HA := Lib.hid (at_any t r n v l id0 _ (hv.below hb2) hl)
  rw [show idxF (fun q => q.id == id0) l 0 = -1 from hi] at HA
  clear hb2 hi
  obtain ⟨a, c, rfl, _⟩ := hv
  unfold hval at *
  go_enter Tryz.func22, Tryz.ntmps22
  go_wp2_with fail
  refine HA.out.mono ?_
  rintro e w1 ⟨rfl, b1⟩
  replace hB := Lib.hid (hB.out.below b1)
  obtain ⟨y2, e0, e1, e2, e3, e4, f0, f1, f2, f3, f4⟩ := hB.out.b5
  clear b1 HA
  go_wp2_with fail
  refine bodyPost_ret (v := .tuple #[.agg #[.int .i64 0, .int .i64 0, .int .i64 0, .int .i64 0, .int .i64 0], .bool false]) (by simp [results, Tryz.results22, go_sem, *]) rfl ⟨rfl, ?_⟩
  exact (((((hB.out.set 0 (.int .i64 0)).set 1 (.int .i64 0)).set 2 (.int .i64 0)).set 3 (.int .i64 0)).set 4 (.int .i64 0)).tail.tail.gold
theorem findR_some (t r n : Int) (v : Value) (l : List Rq) (id0 : Int) (w : World) (hv : RQ w v l) (hl : l.length ≤ 1000) (i : Nat) (hi : plc l id0 = i) (hil : i < l.length) :
    Calls Tryz.prog 22 #[hval t r v n, .int .i64 id0] w fun e w' => e = .returned (.tuple #[(l.getD i default).val, .bool true]) ∧ Below w.heap.size w w' := by
  have hB := Lib.hid (boxes2 w 26 42 #[.int .i64 t, .int .i64 r, v, .int .i64 n] #[.int .i64 0, .int .i64 0, .int .i64 0, .int .i64 0, .int .i64 0])
  have hb2 := two_boxes w #[.int .i64 t, .int .i64 r, v, .int .i64 n] #[.int .i64 0, .int .i64 0, .int .i64 0, .int .i64 0, .int .i64 0] 26 42
  have HA := Lib.hid (at_any t r n v l id0 _ (hv.below hb2) hl)
  rw [show idxF (fun q => q.id == id0) l 0 = i from hi] at HA
  have d : decide ((i : Int) < 0) = false := by rw [decide_eq_false_iff_not]; omega
  clear hb2 hi
  obtain ⟨a, c, rfl, hlc, _, hr⟩ := hv
  obtain ⟨b, off, rfl, hbl, hz⟩ := hr (by omega)
  obtain ⟨z0, z1, z2, z3, z4⟩ := hz i hil
  clear hr hz
  generalize l.getD i default = q at *
  have i1 : (0 : Int) ≤ (i : Int) := by omega
  have i2 : (i : Int) < (l.length : Int) := by omega
  obtain ⟨id, txn, mode, want, since⟩ := q
  unfold hval at *
  simp only [Rq.val] at z0 z1 z2 z3 z4 ⊢
  generalize l.length = m at *
  go_enter Tryz.func22, Tryz.ntmps22
  go_wp2_with fail
  refine HA.out.mono ?_
  rintro e w1 ⟨rfl, b1⟩
  replace hB := Lib.hid (hB.out.below b1)
  obtain ⟨y2, e0, e1, e2, e3, e4, f0, f1, f2, f3, f4⟩ := hB.out.b5
  obtain ⟨y3, k0, k1, k2, k3, _⟩ := hB.out.to1.b4
  rw [← hB.out.tail.tail.gold.cell (by exact hbl)] at z0 z1 z2 z3 z4
  clear b1 HA
  go_wp2_with fail
  refine bodyPost_ret (v := .tuple #[.agg #[.int .i64 id, .int .i64 txn, .int .i64 mode, .int .i64 want, .int .i64 since], .bool true]) (by simp [results, Tryz.results22, go_sem, *]) rfl ⟨rfl, ?_⟩
  exact (((((hB.out.set 0 (.int .i64 id)).set 1 (.int .i64 txn)).set 2 (.int .i64 mode)).set 3 (.int .i64 want)).set 4 (.int .i64 since)).tail.tail.gold
end Go.Proofs.YtmacpjnkmkaloaaGreat
