/-
  What the library's sort leaves, as parts of memory. No condition.
-/
import Derived.Test.YtcbjgibcgalppaaRL
import Derived.Shelf.SlSortCmp.Whole1
import Derived.Shelf.SlSortCmp.WholeK
import Derived.Shelf.SlSortCmp.NoneTotal
namespace Go.Proofs.Ytcbjgibcgalppaa
open Go.RowKit Go.Shelf Go.Sort
theorem size_putCells {α : Type} [Inhabited α] (enc : α → Value) (off : Nat) (d : Array α) (c : Array Value) : (putCells enc off d c).size = c.size := by simp [putCells]
theorem putCells_take {α : Type} [Inhabited α] (enc : α → Value) (d : Array α) (c : Array Value) (h : d.size ≤ c.size) : (putCells enc 0 d c).toList.take d.size = d.toList.map enc := by
  apply List.ext_getElem?
  intro j
  rw [List.getElem?_take]
  by_cases hj : j < d.size
  · rw [if_pos hj, Array.getElem?_toList, List.getElem?_map, Array.getElem?_toList, Array.getElem?_eq_getElem hj, Array.getElem?_eq_getElem (by rw [size_putCells]; omega)]
    simp [putCells, hj]
  · rw [if_neg hj, List.getElem?_eq_none (by simpa using hj)]
theorem heap_row {α : Type} [Inhabited α] (enc : α → Value) (w : World) (g m : Nat) (d : Array α) (os : Array Obj) (b : Nat) (hb : b < w.heap.size) :
    (grow (putRow enc (Go.Sort.ahead w m) g 0 d) os).heap[b]? = if g = b then (w.heap[b]?).map (onCells (putCells enc 0 d)) else w.heap[b]? := by
  simp only [grow, putRow, mapBlock, Go.Sort.ahead]
  rw [Array.getElem?_append_left (by simpa using hb), Array.getElem?_modify]
theorem Sep.blk_row {α : Type} [Inhabited α] {w : World} {g : Nat} {t : TypeId} {cs : Array Value} {rs : List Res} (h : Sep w (blk g t cs :: rs)) (enc : α → Value) (m : Nat) (d : Array α) (os : Array Obj) :
    Sep (grow (putRow enc (Go.Sort.ahead w m) g 0 d) os) (blk g t (putCells enc 0 d cs) :: rs) := by
  obtain ⟨A, h1, h2⟩ := h.open_
  have hlt := h1.2.lt
  have hsz : (grow (putRow enc (Go.Sort.ahead w m) g 0 d) os).heap.size = w.heap.size + os.size := by simp [grow, putRow, mapBlock, Go.Sort.ahead]
  refine h2 _ _ A ⟨h1.1, ?_⟩ ⟨rfl, rfl, rfl, by rw [hsz]; omega, fun b hb hA => ?_⟩ (fun b hb => .inl hb)
  · show (grow (putRow enc (Go.Sort.ahead w m) g 0 d) os).heap[g]? = _
    rw [heap_row enc w g m d os g hlt, if_pos rfl, show w.heap[g]? = _ from h1.2]
    rfl
  · rw [heap_row enc w g m d os b hb, if_neg]
    intro hgb
    exact hA ((h1.1 b).2 hgb.symm)
theorem Sep.vec_row {α : Type} [Inhabited α] {w : World} {e : TypeId} {size n g c : Nat} {xs : List Value} {rs : List Res} (h : Sep w (vec e size (.slice (some ⟨g, 0, none⟩) n c) n xs :: rs)) (enc : α → Value) (m : Nat) (d : Array α) (os : Array Obj) (hd : d.size = n * size) :
    Sep (grow (putRow enc (Go.Sort.ahead w m) g 0 d) os) (vec e size (.slice (some ⟨g, 0, none⟩) n c) n (d.toList.map enc) :: rs) := by
  obtain ⟨cur, hS, hnc, hcm, hcs, ht⟩ := h.vec_blk
  have hle : d.size ≤ cur.size := by rw [hd, hcs]; exact Nat.mul_le_mul_right _ hnc
  refine (hS.blk_row enc m d os).blk_vec (by simpa using hd) hnc hcm (by rw [size_putCells]; exact hcs) ?_
  rw [← hd]
  exact putCells_take enc d cur hle
theorem flatK_list {α : Type} [Inhabited α] (enc : α → List Value) (k : Nat) (hk : ∀ x, (enc x).length = k) (d : Array α) : (flatK enc k d).toList = d.toList.flatMap enc := by
  have hl := flat_len enc k hk d.toList
  have hs := size_flatK enc k d
  apply List.ext_getElem?
  intro j
  by_cases hj : j < d.size * k
  · have k0 : 0 < k := by
      rcases Nat.eq_zero_or_pos k with h | h
      · subst h; simp at hj
      · exact h
    have hq : j / k < d.size := Nat.div_lt_of_lt_mul (by rw [Nat.mul_comm]; exact hj)
    have h1 := get_flatK enc k d j hj
    have hjs : j < (flatK enc k d).size := by rw [hs]; exact hj
    rw [getElem!_pos _ j hjs] at h1
    have h2 := flat_at enc k hk d.toList (j / k) (j % k) d[j / k] (by simp [hq]) (Nat.mod_lt _ k0)
    rw [show j / k * k + j % k = j by rw [Nat.mul_comm]; exact Nat.div_add_mod j k] at h2
    rw [h2, Array.getElem?_toList, Array.getElem?_eq_getElem hjs, h1, getElem!_pos d (j / k) hq]
    have hm : j % k < (enc d[j / k]).length := by rw [hk]; exact Nat.mod_lt _ k0
    rw [getElem!_pos _ (j % k) hm, List.getElem?_eq_getElem hm]
  · rw [List.getElem?_eq_none (by simpa [hs] using hj), List.getElem?_eq_none (by rw [hl]; simpa using hj)]
theorem perm_list {α : Type} [Inhabited α] {d d' : Array α} (h : PermIn 0 d.size d d') : d'.size = d.size ∧ d'.toList.Perm d.toList := by
  refine ⟨h.1, ?_⟩
  have := h.2.2
  rw [show d.extract 0 d.size = d by simp, ← h.1, show d'.extract 0 d'.size = d' by simp] at this
  exact this
theorem sorted_list {α : Type} [Inhabited α] {lt : α → α → Bool} {d d' : Array α} (hs : d'.size = d.size) (h : SortedIn lt 0 d.size d') : d'.toList.Pairwise fun a b => lt b a = false := by
  rw [List.pairwise_iff_getElem]
  intro i j hi hj hij
  have h1 : i < d'.size := by simpa using hi
  have h2 : j < d'.size := by simpa using hj
  have := h i j (Nat.zero_le _) hij (by omega)
  rw [getElem!_pos d' j h2, getElem!_pos d' i h1] at this
  simpa using this
/-- A row of one cell each, held. -/
theorem Sep.vec_holds1 {α : Type} [Inhabited α] {w : World} {e : TypeId} {n g c : Nat} {rs : List Res} (enc : α → Value) (l : List α) (h : Sep w (vec e 1 (.slice (some ⟨g, 0, none⟩) n c) n (l.map enc) :: rs)) (_hl : l.length = n) : Holds enc w g 0 l.toArray ∧ g < w.heap.size := by
  refine ⟨fun j hj => ?_, ?_⟩
  · have hj' : j < l.length := by simpa using hj
    have := h.vec_cell (k := j) (u := enc l[j]) (by rw [List.getElem?_map, List.getElem?_eq_getElem hj']; rfl)
    rw [Nat.zero_add, getElem!_pos _ j hj]
    exact ⟨by simpa using this.1, this.2.1⟩
  · obtain ⟨cur, hS, _⟩ := h.vec_blk
    exact hS.gblk.lt
theorem Sep.vec_holdsK {α : Type} [Inhabited α] {w : World} {e : TypeId} {n g c k : Nat} {rs : List Res} (enc : α → List Value) (hk : ∀ x, (enc x).length = k) (l : List α) (h : Sep w (vec e k (.slice (some ⟨g, 0, none⟩) n c) n (l.flatMap enc) :: rs)) : HoldsK enc k w g 0 l.toArray ∧ g < w.heap.size := by
  refine ⟨fun j hj => ?_, ?_⟩
  · have hL := flatK_list enc k hk l.toArray
    have hg : (flatK enc k l.toArray).toList[j]? = some ((flatK enc k l.toArray)[j]!) := by
      rw [Array.getElem?_toList, Array.getElem?_eq_getElem hj, getElem!_pos _ j hj]
    rw [hL] at hg
    have := h.vec_cell (k := j) hg
    rw [Nat.zero_add]
    exact ⟨this.1, this.2.1⟩
  · obtain ⟨cur, hS, _⟩ := h.vec_blk
    exact hS.gblk.lt
theorem swo_int : SWO (ltOf Lib.compareInt) := by
  have h : ∀ x y : Int, ltOf Lib.compareInt x y = decide (x < y) := fun x y => by
    unfold ltOf Lib.compareInt
    by_cases h1 : x < y
    · simp [h1]
    · by_cases h2 : y < x <;> simp [h1, h2]
  exact ⟨fun x => by rw [h]; simp, fun x y z h1 h2 => by rw [h] at *; simp at *; omega, fun x y z h1 h2 => by rw [h] at *; simp at *; omega⟩
theorem lt_int (x y : Int) : ltOf Lib.compareInt x y = decide (x < y) := by
  unfold ltOf Lib.compareInt
  by_cases h1 : x < y
  · simp [h1]
  · by_cases h2 : y < x <;> simp [h1, h2]
end Go.Proofs.Ytcbjgibcgalppaa
