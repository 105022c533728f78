/-
  The group's laws over modes as numbers: order, repetition, what covers it. No condition.
-/
import Derived.Test.YtddoephnneeglaaGroupC
namespace Go.Proofs.Ytddoephnneeglaa
open Go.RowKit
def mz (z : List Int) (i : Nat) : Int := z.getD i 0 % 7
def aL (z : List Int) (k : Nat) : List Int := (List.range k).map (mz z)
def bL (z : List Int) (r k : Nat) : List Int := (List.range k).map (fun i => mz z ((i + r) % z.length))
theorem aL_snoc (z : List Int) (k : Nat) : aL z (k + 1) = aL z k ++ [mz z k] := by simp [aL, List.range_succ]
theorem bL_snoc (z : List Int) (r k : Nat) : bL z r (k + 1) = bL z r k ++ [mz z ((k + r) % z.length)] := by simp [bL, List.range_succ]
theorem aL_len (z : List Int) (k : Nat) : (aL z k).length = k := by simp [aL]
theorem bL_len (z : List Int) (r k : Nat) : (bL z r k).length = k := by simp [bL]
theorem aL_at (z : List Int) (n k : Nat) (h : k < n) : (aL z n).getD k 0 = mz z k := by simp [aL, List.getD, h]
def Md (x : Int) : Prop := ∃ a : Fin 7, x = (a.val : Int)
theorem md_mk {x : Int} (h0 : 0 ≤ x) (h1 : x < 7) : Md x := ⟨⟨x.toNat, by omega⟩, by simp; omega⟩
theorem mz_md (z : List Int) (i : Nat) : Md (mz z i) := md_mk (by unfold mz; omega) (by unfold mz; omega)
theorem f_md : ∀ a b : Fin 7, 0 ≤ supV a.val b.val ∧ supV a.val b.val < 7 := by decide +kernel
theorem f_rc : ∀ a b c : Fin 7, supV (supV a.val b.val) c.val = supV (supV a.val c.val) b.val := by decide +kernel
theorem f_up : ∀ a b c : Fin 7, covB a.val c.val = true → covB (supV a.val b.val) c.val = true := by decide +kernel
theorem f_in : ∀ a b : Fin 7, covB (supV a.val b.val) b.val = true := by decide +kernel
theorem f_all : ∀ m a b : Fin 7, covB m.val (supV a.val b.val) = (covB m.val a.val && covB m.val b.val) := by decide +kernel
theorem f_abs : ∀ a b : Fin 7, covB a.val b.val = true → supV a.val b.val = a.val := by decide +kernel
theorem f_zero : ∀ a : Fin 7, covB a.val 0 = true := by decide +kernel
theorem sup_md {a b : Int} (h : Md a) (k : Md b) : Md (supV a b) := by
  obtain ⟨a, rfl⟩ := h; obtain ⟨b, rfl⟩ := k; exact md_mk (f_md a b).1 (f_md a b).2
theorem fold_md : ∀ {l : List Int} {z : Int}, Md z → (∀ x ∈ l, Md x) → Md (l.foldl supV z)
  | [], _, h, _ => h
  | x :: l, z, h, k => fold_md (l := l) (z := supV z x) (sup_md h (k x (by simp))) (fun y hy => k y (by simp [hy]))
theorem fold_perm {l l' : List Int} (h : l.Perm l') : ∀ z, Md z → (∀ x ∈ l, Md x) → l.foldl supV z = l'.foldl supV z := by
  induction h with
  | nil => intros; rfl
  | cons x _ ih => exact fun z hz hl => ih _ (sup_md hz (hl x (by simp))) (fun y hy => hl y (by simp [hy]))
  | swap x y l =>
    intro z hz hl
    obtain ⟨a, rfl⟩ := hz
    obtain ⟨b, rfl⟩ := hl x (by simp)
    obtain ⟨c, rfl⟩ := hl y (by simp)
    simp only [List.foldl_cons]
    rw [f_rc]
  | trans h1 _ i1 i2 => exact fun z hz hl => (i1 z hz hl).trans (i2 z hz (fun x hx => hl x (h1.mem_iff.2 hx)))
theorem fold_up : ∀ {l : List Int} {z y : Int}, Md z → Md y → (∀ x ∈ l, Md x) → covB z y = true → covB (l.foldl supV z) y = true
  | [], _, _, _, _, _, h => h
  | x :: l, z, y, hz, hy, hl, h => by
    refine fold_up (l := l) (z := supV z x) (sup_md hz (hl x (by simp))) hy (fun y hy => hl y (by simp [hy])) ?_
    obtain ⟨a, rfl⟩ := hz; obtain ⟨b, rfl⟩ := hl x (by simp); obtain ⟨c, rfl⟩ := hy
    exact f_up a b c h
theorem fold_in : ∀ {l : List Int} {z y : Int}, Md z → (∀ x ∈ l, Md x) → y ∈ l → covB (l.foldl supV z) y = true
  | x :: l, z, y, hz, hl, h => by
    rcases List.mem_cons.1 h with rfl | h
    · refine fold_up (l := l) (z := supV z y) (sup_md hz (hl _ (by simp))) (hl _ (by simp)) (fun y hy => hl y (by simp [hy])) ?_
      obtain ⟨a, rfl⟩ := hz; obtain ⟨b, hb⟩ := hl y (by simp); subst hb
      exact f_in a b
    · exact fold_in (l := l) (z := supV z x) (sup_md hz (hl x (by simp))) (fun y hy => hl y (by simp [hy])) h
theorem fold_all : ∀ {l : List Int} {m z : Int}, Md m → Md z → (∀ x ∈ l, Md x) → covB m (l.foldl supV z) = (covB m z && l.all (covB m))
  | [], _, _, _, _, _ => by simp
  | x :: l, m, z, hm, hz, hl => by
    rw [List.foldl_cons, fold_all hm (sup_md hz (hl x (by simp))) (fun y hy => hl y (by simp [hy])), List.all_cons]
    obtain ⟨a, rfl⟩ := hz; obtain ⟨b, hb⟩ := hl x (by simp); subst hb; obtain ⟨c, rfl⟩ := hm
    rw [f_all, Bool.and_assoc]
theorem fold_abs : ∀ {l : List Int} {z : Int}, Md z → (∀ x ∈ l, Md x) → (∀ x ∈ l, covB z x = true) → l.foldl supV z = z
  | [], _, _, _, _ => rfl
  | x :: l, z, hz, hl, h => by
    have e : supV z x = z := by
      have hx := h x (by simp)
      obtain ⟨a, rfl⟩ := hz; obtain ⟨b, hb⟩ := hl x (by simp); subst hb
      exact f_abs a b hx
    rw [List.foldl_cons, e]
    exact fold_abs hz (fun y hy => hl y (by simp [hy])) (fun y hy => h y (by simp [hy]))
theorem md0 : Md 0 := ⟨0, rfl⟩
theorem aL_md (z : List Int) (k : Nat) : ∀ x ∈ aL z k, Md x := by
  intro x hx
  simp only [aL, List.mem_map] at hx
  obtain ⟨i, _, rfl⟩ := hx
  exact mz_md z i
theorem bL_md (z : List Int) (r k : Nat) : ∀ x ∈ bL z r k, Md x := by
  intro x hx
  simp only [bL, List.mem_map] at hx
  obtain ⟨i, _, rfl⟩ := hx
  exact mz_md z _
theorem rot_perm (n r : Nat) (h : r < n) : ((List.range n).map fun i => (i + r) % n).Perm (List.range n) := by
  have e : ((List.range n).map fun i => (i + r) % n) = (List.range n).drop r ++ (List.range n).take r := by
    apply List.ext_getElem
    · simp; omega
    · intro i h1 h2
      simp only [List.length_map, List.length_range] at h1
      rw [List.getElem_append]
      simp only [List.getElem_map, List.getElem_range, List.length_drop, List.length_range]
      split
      · rw [List.getElem_drop, List.getElem_range, Nat.mod_eq_of_lt (by omega)]; omega
      · rw [List.getElem_take, List.getElem_range]
        have : i + r = n + (i + r - n) := by omega
        rw [this, Nat.add_mod_left, Nat.mod_eq_of_lt (by omega)]
        omega
  rw [e]
  have := (List.perm_append_comm (l₁ := (List.range n).drop r) (l₂ := (List.range n).take r))
  rw [List.take_append_drop] at this
  exact this
theorem bL_perm (z : List Int) (r : Nat) (h : r < z.length) : (bL z r z.length).Perm (aL z z.length) := by
  have := (rot_perm z.length r h).map (mz z)
  rw [List.map_map] at this
  exact this
/-- What the law asks at its end. -/
theorem group_turn (z : List Int) (r : Nat) (h : 0 < z.length → r < z.length) : groupV (bL z r z.length) = groupV (aL z z.length) := by
  by_cases h0 : 0 < z.length
  · exact fold_perm (bL_perm z r (h h0)) 0 md0 (bL_md z r _)
  · have : z.length = 0 := by omega
    rw [this]; rfl
theorem group_mem (z : List Int) (n k : Nat) (h : k < n) : covB (groupV (aL z n)) (mz z k) = true := fold_in md0 (aL_md z n) (by simp [aL]; exact ⟨k, h, rfl⟩)
theorem group_twice (z : List Int) (r : Nat) (h : 0 < z.length → r < z.length) : groupV (bL z r z.length ++ aL z z.length) = groupV (aL z z.length) := by
  unfold groupV
  rw [List.foldl_append]
  have := group_turn z r h
  unfold groupV at this
  rw [this]
  exact fold_abs (fold_md md0 (aL_md z _)) (aL_md z _) (fun x hx => fold_in md0 (aL_md z _) hx)
def allB (m : Int) (z : List Int) (k : Nat) : Bool := (aL z k).all (covB m)
theorem allB_snoc (m : Int) (z : List Int) (k : Nat) : allB m z (k + 1) = (allB m z k && covB m (mz z k)) := by simp [allB, aL_snoc]
theorem group_cov (z : List Int) (m : Int) (n : Nat) (hm : Md m) : covB m (groupV (aL z n)) = allB m z n := by
  unfold groupV
  rw [fold_all hm md0 (aL_md z _)]
  obtain ⟨a, rfl⟩ := hm
  rw [f_zero]
  rfl
end Go.Proofs.Ytddoephnneeglaa
