/-
  What the reference's Read makes of a text, against what Read makes of it. No condition.
-/
import Derived.Test.YtiaibmabmholaaaDoorNmRd3
namespace Go.Proofs.YtiaibmabmholaaaDoor
open Go.RowKit
def isDg (c : UInt8) : Bool := decide (48 ≤ c.toNat) && decide (c.toNat ≤ 57)
/-- The number that digits are, from a place on (two at most); where they end. -/
def numR (l : List UInt8) (i : Nat) : Nat × Nat :=
  if decide (i < l.length) && isDg (l.getD i 0) then
    if decide (i + 1 < l.length) && isDg (l.getD (i + 1) 0) then (10 * ((l.getD i 0).toNat - 48) + ((l.getD (i + 1) 0).toNat - 48), i + 2)
    else ((l.getD i 0).toNat - 48, i + 1)
  else (0, i)
def rdL (l : List UInt8) : Int × Int :=
  if l = [100, 98] ∨ l.length ≤ 1 then (-1, -1)
  else (((numR l 1).1 : Int), if (numR l 1).2 + 2 < l.length then ((numR l ((numR l 1).2 + 2)).1 : Int) else -1)
def rdR (s : ByteArray) : Int × Int := rdL s.data.toList
theorem rdL_one : ((List.range 100).all fun n => rdL (116 :: dg n) == ((n : Int), (-1 : Int))) = true := by decide +kernel
theorem rdL_two : ((List.range 100).all fun n => (List.range 100).all fun m => rdL (116 :: (dg n ++ [46, 114] ++ dg m)) == ((n : Int), (m : Int))) = true := by decide +kernel
theorem rdR_txt (t r : Int) (h : lv t r ≠ -1) : rdR (txt t r) = (t, r) := by
  unfold rdR
  rcases lv_spec t r with ⟨h1, h2, hl⟩ | ⟨h1, h2, h3, hl⟩ | ⟨h1, h2, h3, h4, hl⟩ | ⟨hl, _⟩
  · have e : txt t r = ⟨#[100, 98]⟩ := by simp [txt, hl]
    rw [e, h1, h2]
    rfl
  · obtain ⟨n, rfl⟩ := Int.eq_ofNat_of_zero_le h1
    have hn : n < 100 := by omega
    have e : (txt n r).data.toList = 116 :: dg n := by simp [txt, hl, dgB]
    have := List.all_eq_true.1 rdL_one n (List.mem_range.2 hn)
    rw [e, h3]
    exact eq_of_beq this
  · obtain ⟨n, rfl⟩ := Int.eq_ofNat_of_zero_le h1
    obtain ⟨m, rfl⟩ := Int.eq_ofNat_of_zero_le h3
    have hn : n < 100 := by omega
    have hm : m < 100 := by omega
    have e : (txt n m).data.toList = 116 :: (dg n ++ [46, 114] ++ dg m) := by simp [txt, hl, dgB]
    have := List.all_eq_true.1 (List.all_eq_true.1 rdL_two n (List.mem_range.2 hn)) m (List.mem_range.2 hm)
    rw [e]
    exact eq_of_beq this
  · exact absurd hl h
theorem rdR_fit {s : ByteArray} (h : txt (rdR s).1 (rdR s).2 = s) : lv (rdR s).1 (rdR s).2 ≠ -1 ∧ rdN s = rdR s := by
  have h1 : lv (rdR s).1 (rdR s).2 ≠ -1 := by
    intro k
    have e : s = ⟨#[63]⟩ := by rw [← h]; simp [txt, k]
    rw [e] at k
    exact absurd k (by decide)
  refine ⟨h1, ?_⟩
  have := rdN_txt _ _ h1
  rwa [h] at this
/-- What the reference's Read answers is what Read answers. -/
theorem ReadV.ofR {s : ByteArray} {t r c : Int} (h : (txt (rdR s).1 (rdR s).2 = s ∧ t = (rdR s).1 ∧ r = (rdR s).2 ∧ c = 0) ∨ (txt (rdR s).1 (rdR s).2 ≠ s ∧ t = 0 ∧ r = 0 ∧ c = 3)) : ReadV s t r c := by
  rcases h with ⟨h, rfl, rfl, rfl⟩ | ⟨h, rfl, rfl, rfl⟩
  · obtain ⟨h1, h2⟩ := rdR_fit h
    exact .inl (by rw [h2]; exact ⟨h1, h, rfl, rfl, rfl⟩)
  · refine .inr ⟨?_, rfl, rfl, rfl⟩
    by_cases k : lv (rdN s).1 (rdN s).2 = -1
    · exact .inl k
    · refine .inr fun k2 => h ?_
      have := rdR_txt _ _ k
      rw [k2] at this
      rw [this]
      exact k2
end Go.Proofs.YtiaibmabmholaaaDoor
