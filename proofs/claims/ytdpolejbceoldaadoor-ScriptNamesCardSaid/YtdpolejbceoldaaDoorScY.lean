/-
  A script's bytes, in plain words: what is written is read back. No condition.
-/
import Derived.Test.YtdpolejbceoldaaDoorScW
namespace Go.Proofs.YtdpolejbceoldaaDoor
set_option linter.unusedSimpArgs false
set_option linter.unusedVariables false
set_option linter.unnecessarySimpa false
open Go.RowKit
def fitE (f : Nat → Int) : Prop := ∀ j, 0 ≤ f j ∧ f j ≤ 255
/-- Entries as cells, as bytes. -/
def encV (E : List (Nat → Int)) : List Value := E.flatMap fun f => ent8 f 8
def encU (E : List (Nat → Int)) : List UInt8 := E.flatMap fun f => (List.range 8).map fun j => UInt8.ofNat (f j).toNat
theorem encV_app (A B : List (Nat → Int)) : encV (A ++ B) = encV A ++ encV B := by simp [encV]
theorem encV_one (f : Nat → Int) : encV [f] = ent8 f 8 := by simp [encV]
theorem encV_len : ∀ E : List (Nat → Int), (encV E).length = 8 * E.length
  | [] => rfl
  | f :: E => by
    have := encV_len E
    unfold encV at this ⊢
    rw [List.flatMap_cons, List.length_append, ent8_len, this, List.length_cons]
    omega
theorem encU_len : ∀ E : List (Nat → Int), (encU E).length = 8 * E.length
  | [] => rfl
  | f :: E => by
    have := encU_len E
    unfold encU at this ⊢
    rw [List.flatMap_cons, List.length_append, this, List.length_cons, List.length_map, List.length_range]
    omega
theorem enc_cells : ∀ E : List (Nat → Int), (∀ f ∈ E, fitE f) → encV E = Go.Lib.byteCells (encU E)
  | [], _ => rfl
  | f :: E, h => by
    have ih := enc_cells E (fun g hg => h g (List.mem_cons_of_mem _ hg))
    have hf := h f (List.mem_cons_self ..)
    unfold encV encU Go.Lib.byteCells at *
    rw [List.flatMap_cons, List.flatMap_cons, List.map_append, ih]
    congr 1
    unfold ent8
    rw [List.map_map]
    refine List.map_congr_left fun j _ => ?_
    have := hf j
    simp only [Function.comp]
    congr 1
    rw [UInt8.toNat_ofNat']
    omega
theorem enc_at : ∀ (E : List (Nat → Int)), (∀ f ∈ E, fitE f) → ∀ k j, k < E.length → j < 8 → bt ⟨(encU E).toArray⟩ (8 * k + j) = (E.getD k default) j
  | [], _, k, j, hk, _ => by simp at hk
  | f :: E, h, k, j, hk, hj => by
    have hf := h f (List.mem_cons_self ..)
    have hlen : ((List.range 8).map fun j => UInt8.ofNat (f j).toNat).length = 8 := by simp
    have e : encU (f :: E) = ((List.range 8).map fun j => UInt8.ofNat (f j).toNat) ++ encU E := by unfold encU; rw [List.flatMap_cons]
    cases k with
    | zero =>
      unfold bt
      rw [e, Nat.mul_zero, Nat.zero_add]
      simp only [List.getElem?_toArray]
      rw [List.getElem?_append_left (by rw [hlen]; exact hj), List.getElem?_map, List.getElem?_range hj]
      simp only [Option.map_some, Option.getD_some, List.getD_cons_zero]
      have := hf j
      rw [UInt8.toNat_ofNat']
      omega
    | succ k =>
      have ih := enc_at E (fun g hg => h g (List.mem_cons_of_mem _ hg)) k j (by simpa using hk) hj
      unfold bt at ih ⊢
      rw [e]
      simp only [List.getElem?_toArray] at ih ⊢
      rw [List.getElem?_append_right (by rw [hlen]; omega), hlen, show 8 * (k + 1) + j - 8 = 8 * k + j by omega]
      rw [List.getD_cons_succ]
      exact ih
theorem opsE_mem : ∀ (L : List (List Oq)) (t : Nat) (f : Nat → Int), f ∈ opsE t L → ∃ u o, u < t + L.length ∧ (∃ l ∈ L, o ∈ l) ∧ f = opE u o
  | [], _, _, h => by simp [opsE] at h
  | l :: L, t, f, h => by
    rw [opsE] at h
    rcases List.mem_append.1 h with h | h
    · obtain ⟨o, ho, rfl⟩ := List.mem_map.1 h
      exact ⟨t, o, by simp, ⟨l, List.mem_cons_self .., ho⟩, rfl⟩
    · obtain ⟨u, o, hu, ⟨l', hl', ho⟩, rfl⟩ := opsE_mem L (t + 1) f h
      exact ⟨u, o, by rw [List.length_cons]; omega, ⟨l', List.mem_cons_of_mem _ hl', ho⟩, rfl⟩
theorem fit_op {o : Oq} (h : opB o = true) (t : Nat) (ht : t < 8) : fitE (opE t o) := by
  have := opB_bd h
  intro j
  match j with
  | 0 => simp [opE]
  | 1 => simp only [opE]; omega
  | 2 => simp only [opE]; omega
  | 3 => simp only [opE]; omega
  | 4 => simp only [opE]; omega
  | 5 => simp only [opE]; omega
  | 6 => simp only [opE]; omega
  | 7 => simp only [opE]; omega
  | n + 8 => simp [opE]
theorem fit_pk {p : Int × Int} (h : pkB p = true) : fitE (pkE p) := by
  simp only [pkB, fitB, if_true, Bool.and_eq_true, decide_eq_true_eq] at h
  intro j
  match j with
  | 0 => simp [pkE]
  | 1 => simp only [pkE]; omega
  | 2 => simp only [pkE]; omega
  | n + 3 => simp [pkE]
theorem fit_cp {S : Sc} (h : capB S.c0 S.c1 S.c2 S.c3 = true) (h8 : S.ths.length ≤ 8) : fitE (cpE S) := by
  simp only [capB, fitB, if_true, Bool.and_eq_true, decide_eq_true_eq] at h
  intro j
  match j with
  | 0 => simp [cpE]
  | 1 => simp only [cpE]; omega
  | 2 => simp only [cpE]; omega
  | 3 => simp only [cpE]; omega
  | 4 => simp only [cpE]; omega
  | 5 => simp only [cpE]; omega
  | n + 6 => simp [cpE]
theorem fit_enc {S : Sc} (h : chkS S = true) : ∀ f ∈ encS S, fitE f := by
  obtain ⟨h1, h2, h3, h4, h5, h6⟩ := (chk_iff S).1 h
  intro f hf
  unfold encS at hf
  rcases List.mem_cons.1 hf with rfl | hf
  · exact fit_cp h4 h2
  rcases List.mem_append.1 hf with hf | hf
  · obtain ⟨u, o, hu, ⟨l, hl, ho⟩, rfl⟩ := opsE_mem _ _ _ hf
    obtain ⟨t, ht, rfl⟩ := List.getElem_of_mem hl
    have := (h5 t).2 o (by rw [List.getD_eq_getElem?_getD, List.getElem?_eq_getElem ht]; exact ho)
    exact fit_op this u (by omega)
  · obtain ⟨p, hp, rfl⟩ := List.mem_map.1 hf
    exact fit_pk (h6 p hp)
/-- The bytes of a script. -/
def bytesOf (S : Sc) : ByteArray := ⟨(encU (encS S)).toArray⟩
theorem bytesOf_size (S : Sc) : (bytesOf S).size = 8 * (encS S).length := by
  show (encU (encS S)).toArray.size = _
  rw [List.size_toArray, encU_len]
theorem bytesOf_back {S : Sc} (h : chkS S = true) : readB (bytesOf S) = S := by
  unfold readB
  rw [bytesOf_size, Nat.mul_div_cancel_left _ (by decide)]
  rw [readN_list (bt (bytesOf S)) (encS S) (fun k j hk hj => enc_at _ (fit_enc h) k j hk hj)]
  exact enc_back S h
theorem ent8_congr {f g : Nat → Int} (h : ∀ j, j < 8 → f j = g j) : ent8 f 8 = ent8 g 8 := by
  unfold ent8
  exact List.map_congr_left fun j hj => by rw [h j (List.mem_range.1 hj)]
end Go.Proofs.YtdpolejbceoldaaDoor
