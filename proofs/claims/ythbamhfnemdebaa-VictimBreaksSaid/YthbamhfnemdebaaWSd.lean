/-
  The program's Sorted: edges in order, each once. No condition beside a list that can be read.
-/
import Derived.Test.YthbamhfnemdebaaWCo
namespace Go.Proofs.Ythbamhfnemdebaa
open Go.RowKit
def leEB (a b : Ed) : Bool := decide (a.from_ < b.from_ ∨ a.from_ = b.from_ ∧ a.to ≤ b.to)
theorem leEB_iff (a b : Ed) : leEB a b = true ↔ leE a b := by simp [leEB, leE]
theorem leE_anti (a b : Ed) (h1 : leE a b) (h2 : leE b a) : a = b := by
  obtain ⟨x, y⟩ := a
  obtain ⟨z, t⟩ := b
  simp only [leE] at h1 h2
  simp only [Ed.mk.injEq]
  omega
/-- In order. -/
def srtE (L : List Ed) : List Ed := L.mergeSort leEB
theorem srtE_perm (L : List Ed) : (srtE L).Perm L := List.mergeSort_perm L _
theorem srtE_pw (L : List Ed) : (srtE L).Pairwise leE := by
  have h := List.pairwise_mergeSort (le := leEB) (fun a b c h1 h2 => by
    rw [leEB_iff] at *
    unfold leE at *
    omega) (fun a b => by
    rw [Bool.or_eq_true, leEB_iff, leEB_iff]
    unfold leE
    omega) L
  exact h.imp fun h => (leEB_iff _ _).1 h
theorem srtE_uniq (L ys : List Ed) (hp : ys.Perm L) (hs : ys.Pairwise leE) : ys = srtE L :=
  List.Perm.eq_of_pairwise (le := leE) (fun a b _ _ h1 h2 => leE_anti a b h1 h2) hs (srtE_pw L) (hp.trans (srtE_perm L).symm)
theorem srtE_len (L : List Ed) : (srtE L).length = L.length := (srtE_perm L).length_eq
/-- What Sorted tells. -/
def sdE (L : List Ed) : List Ed := cpE (srtE L)
theorem sdE_len (L : List Ed) : (sdE L).length ≤ L.length := by
  have h := ck_len (srtE L) (srtE L).length
  rw [srtE_len] at h
  unfold sdE cpE
  rw [srtE_len]
  exact h
set_option maxHeartbeats 1000000 in
theorem sorted_any (v : Value) (L : List Ed) (w : World) (hv : RL w v 2 L.length (L.flatMap Ed.cells)) (hl : L.length ≤ 1000) :
    Calls Try.prog 29 #[v] w fun e w' => ∃ a c, e = .returned (.slice a (sdE L).length c) ∧ Sep w' [vec 29 2 (.slice a (sdE L).length c) (sdE L).length ((sdE L).flatMap Ed.cells), old w] := by
  have H := Lib.hid (clone_ed v L w hv hl)
  have hsl := srtE_len L
  clear hv
  go_enter Try.func29, Try.ntmps29
  go_wp2_with fail
  refine H.out.mono ?_
  rintro e w1 ⟨a, c, rfl, hS⟩
  clear H
  have H2 := Lib.hid (sortEdges_any a L.length c L w1 _ hS rfl (by omega))
  clear hS
  go_wp2_with fail
  refine H2.out.mono ?_
  rintro e w2 ⟨rfl, ys, hp, hs, hS⟩
  obtain rfl := srtE_uniq L ys hp hs
  clear H2 hp hs
  have H3 := Lib.hid (compactE_any a L.length c (srtE L) w2 _ hS hsl (by omega))
  clear hS
  go_wp2_with fail
  refine H3.out.mono ?_
  rintro e w3 ⟨rfl, hS⟩
  replace hS := Lib.hid hS
  clear H3
  go_wp2_with fail
  go_ret
  exact ⟨a, c, rfl, hS.out⟩
end Go.Proofs.Ythbamhfnemdebaa
