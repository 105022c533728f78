/-
  How law23's acts come in, as a slice and alone. No condition.
-/
import Derived.Test.YtbpeajcfabjphaaSx
import Derived.Test.YtbpeajcfabjphaaFlat
import Derived.Test.YtbpeajcfabjphaaOpenN
import Derived.ProofKit
import Derived.OpenShut
import Derived.Lib.SmallJoins
import Derived.Deep.Strs
namespace Go.Proofs.Ytbpeajcfabjphaa
open Go.RowKit Go.ChangeShapes Go.WideShapes Go.Joins Go.Deep
structure A4 where
  kind : Int
  t : Int
  r : Int
  v : Int
  deriving DecidableEq, Inhabited
def A4.cells (x : A4) : List Value := [.int .i64 x.kind, .int .i64 x.t, .int .i64 x.r, .int .i64 x.v]
def A4.val (x : A4) : Value := .agg #[.int .i64 x.kind, .int .i64 x.t, .int .i64 x.r, .int .i64 x.v]
def A4.key (x : A4) : Int × Int := (x.t, x.r)
theorem a4_len (x : A4) : x.cells.length = 4 := rfl
def a4cells (L : List A4) : List Value := L.flatMap A4.cells
theorem act_leaves : leaves Try.prog 5 26 = some [true, true, true, true] := by kernel_rfl
theorem act_cellsOf : Try.prog.cellsOf 26 = 4 := by kernel_rfl
theorem leafB_int {v : Value} (h : leafB true v) : ∃ n, v = .int .i64 n := ⟨h.choose, h.choose_spec.1⟩
theorem act_of (cs : List Value) (h : Leafs [true, true, true, true] cs) : ∃ e : A4, cs = e.cells ∧ True := by
  obtain ⟨hl, hat⟩ := h
  rcases cs with _ | ⟨c0, _ | ⟨c1, _ | ⟨c2, _ | ⟨c3, _ | ⟨c4, cs⟩⟩⟩⟩⟩ <;> simp at hl
  obtain ⟨n0, rfl⟩ := leafB_int (hat 0 true c0 rfl rfl)
  obtain ⟨n1, rfl⟩ := leafB_int (hat 1 true c1 rfl rfl)
  obtain ⟨n2, rfl⟩ := leafB_int (hat 2 true c2 rfl rfl)
  obtain ⟨n3, rfl⟩ := leafB_int (hat 3 true c3 rfl rfl)
  exact ⟨⟨n0, n1, n2, n3⟩, rfl, trivial⟩
section
variable {H : Type} {enc : TypeId × Value → H} {w : World} {base : Nat} {spare : Nat → Bool} {held : Bool}
theorem flat_open_Act {a : Option Addr} {len cap : Nat} {d : DataW H} {p : List MemPlace} (h : DataW.Trod enc Try.prog w base spare held 22 (.slice a len cap) d p) :
    ∃ l : List A4, l.length = len ∧ RL w (.slice a len cap) 4 len (a4cells l) ∧ cap ≤ maxLen ∧ ∀ x ∈ l, True :=
  flat_open (ev := A4.cells) (G := fun _ => True) Try.underlying22 act_leaves act_cellsOf (by decide) a4_len act_of h
set_option maxRecDepth 100000 in
theorem agg_open_Act {rc : Reach} {b0 : Nat} {v : Value} {d : DataW H} {p : List MemPlace} (hv : Value.okWide Try.prog w rc b0 26 v) (h : DataW.Trod enc Try.prog w base spare held 26 v d p) : ∃ x : A4, v = x.val := by
  obtain ⟨cs, rfl, hsz⟩ := okWide_struct Try.underlying26 hv
  obtain ⟨fuel, hf⟩ := h
  have hL := leaves_spec 5 _ _ _ _ _ act_leaves hf
  obtain ⟨x, hx, _⟩ := act_of _ hL
  refine ⟨x, ?_⟩
  have hc : (Value.agg cs).cells.toList = cs.toList := rfl
  rw [hc] at hx
  unfold A4.val
  congr 1
  apply Array.toList_inj.1
  rw [hx]
  rfl
end
theorem a4_at {w : World} {a : Option Addr} {n c : Nat} {L : List A4} (hv : RL w (.slice a n c) 4 n (a4cells L)) (hn : L.length = n) (h0 : 0 < n) :
    ∃ b off, a = some ⟨b, off, none⟩ ∧ b < w.heap.size ∧ ∀ k x, L[k]? = some x → ∀ j u, (A4.cells x)[j]? = some u → w.cell? ⟨b, off + (k * 4 + j), none⟩ = some u := by
  subst hn
  obtain ⟨b, off, c', hv', _, hb, h⟩ := RL.at_ a4_len hv h0
  injection hv' with e1 _ _
  exact ⟨b, off, e1, hb, h⟩
/-! ### what a run of puts leaves -/
def putX (E : Ent) (x : A4) : Ent := if isRec x.key = true then putL E x.key x.v else E
def foldP (L : List A4) : Ent := L.foldl putX []
def Apart (L : List A4) : Prop := L.Pairwise fun a b => a.key ≠ b.key
theorem foldP_snoc (L : List A4) (x : A4) : foldP (L ++ [x]) = putX (foldP L) x := by
  unfold foldP
  rw [List.foldl_append]
  rfl
theorem putX_len (E : Ent) (x : A4) : (putX E x).length ≤ E.length + 1 := by
  unfold putX
  split
  · exact putL_len _ _ _
  · omega
theorem snoc_ind {α : Type} {P : List α → Prop} (h0 : P []) (h1 : ∀ L x, P L → P (L ++ [x])) (L : List α) : P L := by
  have : ∀ M : List α, P M.reverse := fun M => by
    induction M with
    | nil => exact h0
    | cons x M ih => rw [List.reverse_cons]; exact h1 _ _ ih
  have h := this L.reverse
  rwa [List.reverse_reverse] at h
theorem foldP_len (L : List A4) : (foldP L).length ≤ L.length := by
  refine snoc_ind (P := fun L => (foldP L).length ≤ L.length) (Nat.le_refl _) (fun L x ih => ?_) L
  rw [foldP_snoc, List.length_append]
  have := putX_len (foldP L) x
  simp only [List.length_singleton]
  omega
theorem foldP_get (L : List A4) : Apart L → ∀ k v, getL (foldP L) k = some v ↔ ∃ x ∈ L, x.key = k ∧ isRec k = true ∧ x.v = v := by
  refine snoc_ind (P := fun L => Apart L → ∀ k v, getL (foldP L) k = some v ↔ ∃ x ∈ L, x.key = k ∧ isRec k = true ∧ x.v = v) (fun _ k v => by simp [foldP, getL]) (fun L x ih hA k v => ?_) L
  unfold Apart at hA
  rw [List.pairwise_append] at hA
  obtain ⟨hA1, _, hA2⟩ := hA
  have ih := ih hA1 k v
  rw [foldP_snoc]
  have hx : ∀ y ∈ L, y.key ≠ x.key := fun y hy => hA2 y hy x (by simp)
  unfold putX
  by_cases hr : isRec x.key = true
  · rw [if_pos hr, getL_putL]
    by_cases hk : k = x.key
    · subst hk
      rw [if_pos rfl]
      constructor
      · intro h
        exact ⟨x, by simp, rfl, hr, Option.some.inj h⟩
      · rintro ⟨y, hy, hyk, _, hv⟩
        rcases List.mem_append.1 hy with hy | hy
        · exact absurd hyk (hx y hy)
        · simp at hy; subst hy; rw [hv]
    · rw [if_neg hk, ih]
      constructor
      · rintro ⟨y, hy, h⟩; exact ⟨y, List.mem_append_left _ hy, h⟩
      · rintro ⟨y, hy, h1, h2⟩
        rcases List.mem_append.1 hy with hy | hy
        · exact ⟨y, hy, h1, h2⟩
        · simp at hy; subst hy; exact absurd h1.symm hk
  · rw [if_neg hr, ih]
    constructor
    · rintro ⟨y, hy, h⟩; exact ⟨y, List.mem_append_left _ hy, h⟩
    · rintro ⟨y, hy, h1, h2, h3⟩
      rcases List.mem_append.1 hy with hy | hy
      · exact ⟨y, hy, h1, h2, h3⟩
      · simp at hy; subst hy; rw [← h1] at h2; exact absurd h2 hr
theorem foldP_perm {L M : List A4} (hA : Apart L) (hp : L.Perm M) : eqvE (foldP L) (foldP M) := by
  have hB : Apart M := (hp.pairwise_iff (fun {_ _} h => Ne.symm h)).1 hA
  intro k
  cases hm : getL (foldP M) k with
  | some v =>
    rw [foldP_get M hB] at hm
    rw [foldP_get L hA]
    obtain ⟨x, hx, h⟩ := hm
    exact ⟨x, hp.mem_iff.2 hx, h⟩
  | none =>
    cases hl : getL (foldP L) k with
    | none => rfl
    | some v =>
      rw [foldP_get L hA] at hl
      obtain ⟨x, hx, h⟩ := hl
      have := (foldP_get M hB k v).2 ⟨x, hp.mem_iff.1 hx, h⟩
      rw [hm] at this
      cases this
/-! ### a turn -/
def turnL (L : List A4) (s : Nat) : List A4 := L.drop s ++ L.take s
def posT (m s i : Nat) : Nat := if i + s < m then i + s else i + s - m
theorem posT_lt {m s i : Nat} (hs : s < m) (hi : i < m) : posT m s i < m := by unfold posT; split <;> omega
theorem posT_mod {m s i : Nat} (hs : s < m) (hi : i < m) : ((i : Int) + (s : Int)).tmod (m : Int) = (posT m s i : Int) := by
  rw [Int.tmod_eq_emod_of_nonneg (by omega)]
  unfold posT
  split
  · rw [Int.emod_eq_of_lt (by omega) (by omega)]
    omega
  · rw [← Int.sub_emod_right, Int.emod_eq_of_lt (by omega) (by omega)]
    omega
theorem turnL_perm (L : List A4) (s : Nat) : L.Perm (turnL L s) := by
  have h : (L.take s ++ L.drop s).Perm (L.drop s ++ L.take s) := List.perm_append_comm
  rwa [List.take_append_drop] at h
theorem turnL_at {L : List A4} {s i : Nat} (hs : s < L.length) (hi : i < L.length) : (turnL L s)[i]? = L[posT L.length s i]? := by
  unfold turnL posT
  split
  · rename_i h
    rw [List.getElem?_append_left (by rw [List.length_drop]; omega), List.getElem?_drop, Nat.add_comm]
  · rename_i h
    rw [List.getElem?_append_right (by rw [List.length_drop]; omega), List.getElem?_take, List.length_drop, if_pos (by omega)]
    congr 1
    omega
theorem turnL_len (L : List A4) (s : Nat) : (turnL L s).length = L.length := ((turnL_perm L s).length_eq).symm
theorem take_succ_at {L : List A4} {k : Nat} {x : A4} (h : L[k]? = some x) : L.take (k + 1) = L.take k ++ [x] := by
  obtain ⟨h1, h2⟩ := List.getElem?_eq_some_iff.1 h
  rw [List.take_succ_eq_append_getElem h1, h2]
theorem apart_of {L : List A4} (h : ∀ (i j : Nat) (x y : A4), j < i → L[i]? = some x → L[j]? = some y → y.key ≠ x.key) : Apart L := by
  unfold Apart
  rw [List.pairwise_iff_getElem]
  intro i j hi hj hij
  exact h j i _ _ hij (List.getElem?_eq_getElem hj) (List.getElem?_eq_getElem hi)
end Go.Proofs.Ytbpeajcfabjphaa
