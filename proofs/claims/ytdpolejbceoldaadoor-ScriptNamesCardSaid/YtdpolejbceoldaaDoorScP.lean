/-
  Scripts as bytes tell them, in plain words: what an entry does, what an entry more, or one between others, changes; a valid script is read back. No condition.
-/
import Derived.Test.YtdpolejbceoldaaDoorNmL
namespace Go.Proofs.YtdpolejbceoldaaDoor
set_option linter.unusedSimpArgs false
set_option linter.unusedVariables false
set_option linter.unnecessarySimpa false
structure Oq where
  kind : Int
  tab : Int
  row : Int
  mode : Int
  value : Int
  wait : Int
  deriving DecidableEq, Inhabited
def fitB (n low high : Int) (there : Bool) : Bool := if there then decide (low ≤ n) && decide (n ≤ high) else decide (n = 0)
def lvK (k : Int) : Int := if k = 2 ∨ k = 3 ∨ k = 4 ∨ k = 5 then 2 else if k = 6 then 1 else if k = 9 ∨ k = 10 then 3 else 0
/-- May an op be? -/
def opB (o : Oq) : Bool :=
  decide (1 ≤ o.kind ∧ o.kind ≤ 11) && (decide (0 ≤ lv o.tab o.row) && (decide (lvK o.kind = 3) || decide (lvK o.kind = lv o.tab o.row))) && fitB o.mode 1 6 (decide (o.kind = 9)) &&
    fitB o.value 0 255 (decide (o.kind = 3 ∨ o.kind = 4)) && fitB o.wait 0 255 (decide (0 < lvK o.kind ∧ o.kind ≠ 10))
theorem opB_bd {o : Oq} (h : opB o = true) : (1 ≤ o.kind ∧ o.kind ≤ 11) ∧ (-1 ≤ o.tab ∧ o.tab < 100) ∧ (-1 ≤ o.row ∧ o.row < 100) ∧ (0 ≤ o.mode ∧ o.mode ≤ 6) ∧ (0 ≤ o.value ∧ o.value ≤ 255) ∧ (0 ≤ o.wait ∧ o.wait ≤ 255) := by
  unfold opB at h
  simp only [Bool.and_eq_true, decide_eq_true_eq] at h
  obtain ⟨⟨⟨⟨h1, h2, _⟩, h3⟩, h4⟩, h5⟩ := h
  have fit : ∀ {n lo hi : Int} {b : Bool}, fitB n lo hi b = true → lo ≤ n ∧ n ≤ hi ∨ n = 0 := by
    intro n lo hi b h
    unfold fitB at h
    split at h
    · simp only [Bool.and_eq_true, decide_eq_true_eq] at h; exact .inl h
    · simp only [decide_eq_true_eq] at h; exact .inr h
  have f3 := fit h3
  have f4 := fit h4
  have f5 := fit h5
  refine ⟨h1, ?_, ?_, by omega, by omega, by omega⟩ <;> (unfold lv at h2; split at h2; omega; split at h2; omega; split at h2; omega; omega)
def opOf (f : Nat → Int) : Oq := ⟨f 2, f 3 - 1, f 4 - 1, f 5, f 6, f 7⟩
def isOp (f : Nat → Int) : Bool := f 0 == 2 && decide (f 1 < 8) && opB (opOf f)
structure Sc where
  ths : List (List Oq)
  pks : List (Int × Int)
  c0 : Int
  c1 : Int
  c2 : Int
  c3 : Int
  deriving DecidableEq
def capB (a b c d : Int) : Bool := fitB a 1 16 true && fitB b 1 64 true && fitB c 1 128 true && fitB d 0 8 true
def growL (L : List (List Oq)) (n : Nat) : List (List Oq) := L ++ List.replicate (n - L.length) []
def addL (L : List (List Oq)) (t : Nat) (o : Oq) : List (List Oq) := L.set t (L.getD t [] ++ [o])
/-- An entry of caps, of an op, of a pick: does it count? -/
def isCap (f : Nat → Int) : Bool := capB (f 1) (f 2) (f 3) (f 4) && decide (1 ≤ f 5 ∧ f 5 ≤ 8) && decide (f 6 = 0 ∧ f 7 = 0)
def isPk (f : Nat → Int) : Bool := decide (1 ≤ f 1 ∧ f 1 ≤ 4) && decide (f 3 = 0 ∧ f 4 = 0 ∧ f 5 = 0 ∧ f 6 = 0 ∧ f 7 = 0)
def fullS (s : Sc) (t : Nat) : Bool := decide (t < s.ths.length) && decide ((s.ths.getD t []).length = 32)
def stepS (s : Sc) (f : Nat → Int) : Sc :=
  if f 0 = 1 then if isCap f then { s with ths := growL s.ths (f 5).toNat, c0 := f 1, c1 := f 2, c2 := f 3, c3 := f 4 } else s
  else if f 0 = 2 then if isOp f && !fullS s (f 1).toNat then { s with ths := addL (growL s.ths ((f 1).toNat + 1)) (f 1).toNat (opOf f) } else s
  else if f 0 = 3 then if isPk f && decide (s.pks.length < 4096) then { s with pks := s.pks ++ [(f 1, f 2)] } else s
  else s
theorem step_congr {f g : Nat → Int} (s : Sc) (h : ∀ j, j < 8 → f j = g j) : stepS s f = stepS s g := by
  have r : ∀ f : Nat → Int, stepS s f = stepS s (fun j => if j < 8 then f j else 0) := fun f => rfl
  rw [r f, r g]
  congr 1
  funext j
  by_cases hj : j < 8
  · rw [if_pos hj, if_pos hj, h j hj]
  · rw [if_neg hj, if_neg hj]
def sc0 : Sc := ⟨[[]], [], 4, 32, 64, 2⟩
/-- The script that the first n entries of bytes tell. -/
def readN (g : Nat → Int) : Nat → Sc
  | 0 => sc0
  | n + 1 => stepS (readN g n) (fun j => g (8 * n + j))
theorem readN_congr {f g : Nat → Int} : ∀ n, (∀ i, i < 8 * n → f i = g i) → readN f n = readN g n
  | 0, _ => rfl
  | n + 1, h => by
    rw [readN, readN, readN_congr n (fun i hi => h i (by omega))]
    exact step_congr _ (fun j hj => h _ (by omega))
theorem step_skip {f : Nat → Int} (s : Sc) (h1 : f 0 ≠ 1) (h3 : f 0 ≠ 3) (ho : isOp f = false) : stepS s f = s := by
  unfold stepS
  rw [if_neg h1]
  split
  · rw [ho]; rfl
  · rfl
/-- An entry between others that changes nothing. -/
theorem readN_skip {f g : Nat → Int} (k : Nat) (h1 : ∀ i, i < 8 * k → f i = g i) (hs : ∀ s, stepS s (fun j => f (8 * k + j)) = s) (n0 : Nat) (h2 : ∀ i, 8 * k ≤ i → i < 8 * n0 → f (i + 8) = g i) : ∀ n, k ≤ n → n ≤ n0 → readN f (n + 1) = readN g n := by
  intro n hkn hn
  induction n with
  | zero =>
    obtain rfl : k = 0 := by omega
    exact hs _
  | succ n ih =>
    by_cases hk : k = n + 1
    · subst hk
      rw [readN, hs]
      exact readN_congr _ h1
    · rw [readN, ih (by omega) (by omega), readN]
      refine step_congr _ (fun j hj => ?_)
      rw [show 8 * (n + 1) + j = 8 * n + j + 8 by omega]
      exact h2 _ (by omega) (by omega)
theorem growL_len (L : List (List Oq)) (n : Nat) : (growL L n).length = max L.length n := by
  unfold growL
  rw [List.length_append, List.length_replicate]
  omega
theorem growL_getD (L : List (List Oq)) (n t : Nat) : (growL L n).getD t [] = L.getD t [] := by
  unfold growL
  by_cases h : t < L.length
  · simp [List.getD_eq_getElem?_getD, List.getElem?_append_left h]
  · rw [List.getD_eq_getElem?_getD, List.getD_eq_getElem?_getD, List.getElem?_append_right (by omega), List.getElem?_replicate, List.getElem?_eq_none (by omega : L.length ≤ t)]
    split <;> rfl
theorem addL_len (L : List (List Oq)) (t : Nat) (o : Oq) : (addL L t o).length = L.length := by simp [addL]
theorem addL_getD (L : List (List Oq)) (t u : Nat) (o : Oq) (ht : t < L.length) : (addL L t o).getD u [] = if u = t then L.getD t [] ++ [o] else L.getD u [] := by
  unfold addL
  rw [List.getD_eq_getElem?_getD, List.getElem?_set]
  by_cases h : t = u
  · subst h; simp [ht]
  · rw [if_neg h, if_neg (Ne.symm h), List.getD_eq_getElem?_getD]
/-- What every script that bytes tell keeps to. -/
structure ScOk (s : Sc) (n : Nat) : Prop where
  lo : 1 ≤ s.ths.length
  hi : s.ths.length ≤ 8
  ops : ∀ t, (s.ths.getD t []).length ≤ 32
  pk : s.pks.length ≤ n
  pk2 : s.pks.length ≤ 4096
theorem step_ok {s : Sc} {n : Nat} (f : Nat → Int) (hf : ∀ j, 0 ≤ f j) (h : ScOk s n) : ScOk (stepS s f) (n + 1) := by
  obtain ⟨h1, h2, h3, h4, h5⟩ := h
  have same : ScOk s (n + 1) := ⟨h1, h2, h3, by omega, h5⟩
  unfold stepS
  split
  · split
    · rename_i hc
      simp only [isCap, Bool.and_eq_true, decide_eq_true_eq] at hc
      refine ⟨?_, ?_, fun t => ?_, by simp only; omega, h5⟩
      · simp only [growL_len]; omega
      · simp only [growL_len]; omega
      · simp only [growL_getD]; exact h3 t
    · exact same
  · split
    · split
      · rename_i hc
        simp only [isOp, Bool.and_eq_true, decide_eq_true_eq, Bool.not_eq_true', fullS, Bool.and_eq_false_iff, decide_eq_false_iff_not] at hc
        have hp := hf 1
        have hl : (f 1).toNat < (growL s.ths ((f 1).toNat + 1)).length := by rw [growL_len]; omega
        refine ⟨?_, ?_, fun t => ?_, by simp only; omega, h5⟩
        · simp only [addL_len, growL_len]; omega
        · simp only [addL_len, growL_len]; omega
        · simp only [addL_getD _ _ _ _ hl, growL_getD]
          split
          · rename_i ht
            rw [List.length_append]
            have := h3 (f 1).toNat
            rcases hc.2 with h | h
            · rw [List.getD_eq_getElem?_getD, List.getElem?_eq_none (by omega)]; simp
            · simp only [List.length_cons, List.length_nil]; omega
          · exact h3 t
      · exact same
    · split
      · split
        · rename_i hc
          simp only [Bool.and_eq_true, decide_eq_true_eq] at hc
          refine ⟨h1, h2, h3, ?_, ?_⟩ <;> simp only [List.length_append, List.length_cons, List.length_nil] <;> omega
        · exact same
      · exact same
theorem readN_ok (g : Nat → Int) (hg : ∀ j, 0 ≤ g j) : ∀ n, ScOk (readN g n) n
  | 0 => by
    rw [readN]
    exact ⟨by decide, by decide, fun t => by cases t <;> simp [sc0], by decide, by decide⟩
  | n + 1 => step_ok _ (fun _ => hg _) (readN_ok g hg n)
/-- A valid op more, of the thread t. -/
theorem step_op {s : Sc} {n : Nat} (f : Nat → Int) (t : Nat) (h : ScOk s n) (h0 : f 0 = 2) (h1 : f 1 = t) (hi : isOp f = true) :
    (32 ≤ (s.ths.getD t []).length → stepS s f = s) ∧ ((s.ths.getD t []).length < 32 → t < (stepS s f).ths.length ∧ (stepS s f).ths.getD t [] = s.ths.getD t [] ++ [opOf f] ∧ (stepS s f).pks = s.pks) := by
  have ht : (f 1).toNat = t := by rw [h1]; rfl
  have e : stepS s f = if !fullS s t then { s with ths := addL (growL s.ths (t + 1)) t (opOf f) } else s := by
    unfold stepS
    rw [if_neg (by rw [h0]; decide), if_pos h0, hi, ht]
    rfl
  have hb := h.ops t
  refine ⟨fun hl => ?_, fun hl => ?_⟩
  · have hlt : t < s.ths.length := by
      rcases Nat.lt_or_ge t s.ths.length with h | h
      · exact h
      · rw [List.getD_eq_getElem?_getD, List.getElem?_eq_none h] at hl
        simp at hl
    rw [e, if_neg]
    simp only [fullS, Bool.not_eq_true', Bool.and_eq_false_iff, decide_eq_false_iff_not]
    omega
  · have hf : fullS s t = false := by
      unfold fullS
      rw [decide_eq_false (by omega : ¬(s.ths.getD t []).length = 32), Bool.and_false]
    have hlt : t < (growL s.ths (t + 1)).length := by rw [growL_len]; omega
    rw [e, hf]
    refine ⟨?_, ?_, rfl⟩
    · show t < (addL _ _ _).length
      rw [addL_len]; exact hlt
    · show (addL _ _ _).getD t [] = _
      rw [addL_getD _ _ _ _ hlt, if_pos rfl, growL_getD]
/-- A pick more. -/
theorem step_pk (s : Sc) (f : Nat → Int) (h0 : f 0 = 3) (hz : f 3 = 0 ∧ f 4 = 0 ∧ f 5 = 0 ∧ f 6 = 0 ∧ f 7 = 0) :
    (f 1 < 1 ∨ 4 < f 1 ∨ 4096 ≤ s.pks.length → stepS s f = s) ∧ (1 ≤ f 1 → f 1 ≤ 4 → s.pks.length < 4096 → stepS s f = { s with pks := s.pks ++ [(f 1, f 2)] }) := by
  have e : stepS s f = if isPk f && decide (s.pks.length < 4096) then { s with pks := s.pks ++ [(f 1, f 2)] } else s := by
    unfold stepS
    rw [if_neg (by rw [h0]; decide), if_neg (by rw [h0]; decide), if_pos h0]
  refine ⟨fun h => ?_, fun h1 h4 hl => ?_⟩
  · rw [e, if_neg]
    simp only [isPk, Bool.and_eq_true, decide_eq_true_eq]
    omega
  · rw [e, if_pos]
    simp only [isPk, Bool.and_eq_true, decide_eq_true_eq]
    exact ⟨⟨⟨h1, h4⟩, hz⟩, hl⟩
/-- An op's own entry tells it. -/
theorem op_entry {o : Oq} (h : opB o = true) (t : Int) (ht : t < 8) (f : Nat → Int) (h0 : f 0 = 2) (h1 : f 1 = t) (h2 : f 2 = o.kind) (h3 : f 3 = o.tab + 1) (h4 : f 4 = o.row + 1) (h5 : f 5 = o.mode) (h6 : f 6 = o.value) (h7 : f 7 = o.wait) :
    isOp f = true ∧ opOf f = o := by
  have e : opOf f = o := by
    cases o
    simp only [opOf, h2, h3, h4, h5, h6, h7, Oq.mk.injEq, true_and, and_true]
    omega
  refine ⟨?_, e⟩
  simp only [isOp, h0, h1, e, h, decide_eq_true ht]
  rfl
def opE (t : Nat) (o : Oq) : Nat → Int
  | 0 => 2
  | 1 => t
  | 2 => o.kind
  | 3 => o.tab + 1
  | 4 => o.row + 1
  | 5 => o.mode
  | 6 => o.value
  | 7 => o.wait
  | _ => 0
def pkE (p : Int × Int) : Nat → Int
  | 0 => 3
  | 1 => p.1
  | 2 => p.2
  | _ => 0
def cpE (s : Sc) : Nat → Int
  | 0 => 1
  | 1 => s.c0
  | 2 => s.c1
  | 3 => s.c2
  | 4 => s.c3
  | 5 => s.ths.length
  | _ => 0
def opsE : Nat → List (List Oq) → List (Nat → Int)
  | _, [] => []
  | t, o :: L => o.map (opE t) ++ opsE (t + 1) L
/-- A script's entries. -/
def encS (s : Sc) : List (Nat → Int) := cpE s :: (opsE 0 s.ths ++ s.pks.map pkE)
def pkB (p : Int × Int) : Bool := decide (1 ≤ p.1 ∧ p.1 ≤ 4) && fitB p.2 0 255 true
/-- May a script be? -/
def chkS (s : Sc) : Bool :=
  decide (1 ≤ s.ths.length) && decide (s.ths.length ≤ 8) && decide (s.pks.length ≤ 4096) && capB s.c0 s.c1 s.c2 s.c3 && s.ths.all (fun l => decide (l.length ≤ 32) && l.all opB) && s.pks.all pkB
theorem ops1_fold (t : Nat) (ht : t < 8) (A R : List (List Oq)) (hA : A.length = t) : ∀ (o P : List Oq) (S : Sc), S.ths = A ++ P :: R → P.length + o.length ≤ 32 → (∀ x ∈ o, opB x = true) →
    (o.map (opE t)).foldl stepS S = { S with ths := A ++ (P ++ o) :: R }
  | [], P, S, hS, _, _ => by
    rw [List.append_nil, ← hS]
    rfl
  | x :: o, P, S, hS, hl, ho => by
    obtain ⟨hi, he⟩ := op_entry (ho x (List.mem_cons_self ..)) t (by omega) (opE t x) rfl rfl rfl rfl rfl rfl rfl rfl
    have hg : S.ths.getD t [] = P := by rw [hS, List.getD_eq_getElem?_getD, List.getElem?_append_right (by omega), hA, Nat.sub_self]; rfl
    have hn : S.ths.length = t + 1 + R.length := by rw [hS, List.length_append, List.length_cons, hA]; omega
    rw [List.length_cons] at hl
    have e1 : growL S.ths (t + 1) = S.ths := by unfold growL; rw [show t + 1 - S.ths.length = 0 by omega]; simp
    have e2 : addL S.ths t x = A ++ (P ++ [x]) :: R := by
      unfold addL
      rw [hg, hS, List.set_append_right _ _ (by omega), hA, Nat.sub_self]
      rfl
    have hf : fullS S t = false := by
      unfold fullS
      rw [hg, decide_eq_false (by omega : ¬P.length = 32), Bool.and_false]
    have e : stepS S (opE t x) = { S with ths := A ++ (P ++ [x]) :: R } := by
      have h2 : ((opE t x) 1).toNat = t := rfl
      unfold stepS
      have h0 : opE t x 0 = 2 := rfl
      rw [if_neg (by rw [h0]; decide), if_pos h0, hi, h2, hf, he, e1, e2]
      rfl
    rw [List.map_cons, List.foldl_cons, e, ops1_fold t ht A R hA o (P ++ [x]) _ rfl (by simp; omega) (fun y hy => ho y (List.mem_cons_of_mem _ hy))]
    rw [List.append_assoc]
    rfl
theorem opsE_fold : ∀ (L A : List (List Oq)) (S : Sc), S.ths = A ++ List.replicate L.length [] → A.length + L.length ≤ 8 → (∀ l ∈ L, l.length ≤ 32 ∧ ∀ x ∈ l, opB x = true) →
    (opsE A.length L).foldl stepS S = { S with ths := A ++ L }
  | [], A, S, hS, _, _ => by
    have : S.ths = A := by simpa using hS
    rw [List.append_nil, ← this]
    rfl
  | o :: L, A, S, hS, hl, ho => by
    rw [List.length_cons] at hl
    have h1 := ops1_fold A.length (by omega) A (List.replicate L.length []) rfl o [] S (by rw [hS]; rfl) (by have := (ho o (List.mem_cons_self ..)).1; simpa using this) (ho o (List.mem_cons_self ..)).2
    have h2 := opsE_fold L (A ++ [o]) { S with ths := A ++ ([] ++ o) :: List.replicate L.length [] } (by simp) (by simp; omega) (fun l hl => ho l (List.mem_cons_of_mem _ hl))
    rw [opsE, List.foldl_append, h1]
    rw [List.length_append] at h2
    refine Eq.trans h2 ?_
    rw [List.append_assoc]
    rfl
theorem pksE_fold : ∀ (l : List (Int × Int)) (S : Sc), S.pks.length + l.length ≤ 4096 → (∀ p ∈ l, pkB p = true) → (l.map pkE).foldl stepS S = { S with pks := S.pks ++ l }
  | [], S, _, _ => by rw [List.append_nil]; rfl
  | p :: l, S, hl, ho => by
    rw [List.length_cons] at hl
    have hp := ho p (List.mem_cons_self ..)
    simp only [pkB, Bool.and_eq_true, decide_eq_true_eq] at hp
    have e := (step_pk S (pkE p) rfl ⟨rfl, rfl, rfl, rfl, rfl⟩).2 hp.1.1 hp.1.2 (by omega)
    rw [List.map_cons, List.foldl_cons, e, pksE_fold l _ (by simp; omega) (fun q hq => ho q (List.mem_cons_of_mem _ hq))]
    simp only [List.append_assoc]
    rfl
/-- A valid script is read back from its entries. -/
theorem enc_back (s : Sc) (h : chkS s = true) : (encS s).foldl stepS sc0 = s := by
  simp only [chkS, Bool.and_eq_true, decide_eq_true_eq, List.all_eq_true] at h
  obtain ⟨⟨⟨⟨⟨h1, h2⟩, h3⟩, h4⟩, h5⟩, h6⟩ := h
  have e : stepS sc0 (cpE s) = { s with ths := List.replicate s.ths.length [], pks := [] } := by
    have hc : isCap (cpE s) = true := by
      simp only [isCap, Bool.and_eq_true, decide_eq_true_eq]
      refine ⟨⟨h4, ?_, ?_⟩, rfl, rfl⟩ <;> (show _ ≤ _; simp only [cpE]; omega)
    have hg : growL sc0.ths (cpE s 5).toNat = List.replicate s.ths.length [] := by
      show growL [[]] s.ths.length = _
      unfold growL
      rw [show ([[]] : List (List Oq)) = List.replicate 1 [] from rfl, List.replicate_append_replicate, List.length_replicate]
      congr 1
      omega
    unfold stepS
    have h0 : cpE s 0 = 1 := rfl
    rw [if_pos h0, hc, hg]
    rfl
  have e2 := opsE_fold s.ths [] { s with ths := List.replicate s.ths.length [], pks := [] } rfl (by simpa using h2) (fun l hl => h5 l hl)
  have e3 := pksE_fold s.pks { s with pks := [] } (by simpa using h3) h6
  rw [encS, List.foldl_cons, e, List.foldl_append]
  rw [show (opsE 0 s.ths) = opsE ([] : List (List Oq)).length s.ths from rfl, e2]
  exact e3
theorem readN_fold (g : Nat → Int) : ∀ n, readN g n = ((List.range n).map fun k => fun j => g (8 * k + j)).foldl stepS sc0
  | 0 => rfl
  | n + 1 => by
    rw [List.range_succ, List.map_append, List.foldl_append, ← readN_fold g n]
    rfl
/-- What reads as given entries. -/
theorem readN_list (g : Nat → Int) (E : List (Nat → Int)) (h : ∀ k j, k < E.length → j < 8 → g (8 * k + j) = (E.getD k default) j) : readN g E.length = E.foldl stepS sc0 := by
  have : ∀ n, n ≤ E.length → readN g n = (E.take n).foldl stepS sc0 := by
    intro n
    induction n with
    | zero => intro _; rfl
    | succ n ih =>
      intro hn
      rw [readN, ih (by omega), List.take_succ_eq_append_getElem (by omega), List.foldl_append]
      refine step_congr _ (fun j hj => ?_)
      rw [h n j (by omega) hj]
      simp [List.getD_eq_getElem?_getD, show n < E.length by omega]
  have h2 := this E.length (Nat.le_refl _)
  rwa [List.take_length] at h2
theorem chk_iff (s : Sc) : chkS s = true ↔ 1 ≤ s.ths.length ∧ s.ths.length ≤ 8 ∧ s.pks.length ≤ 4096 ∧ capB s.c0 s.c1 s.c2 s.c3 = true ∧ (∀ t, (s.ths.getD t []).length ≤ 32 ∧ ∀ x ∈ s.ths.getD t [], opB x = true) ∧ ∀ p ∈ s.pks, pkB p = true := by
  simp only [chkS, Bool.and_eq_true, decide_eq_true_eq, List.all_eq_true]
  refine ⟨fun h => ?_, fun h => ?_⟩
  · obtain ⟨⟨⟨⟨⟨h1, h2⟩, h3⟩, h4⟩, h5⟩, h6⟩ := h
    refine ⟨h1, h2, h3, h4, fun t => ?_, h6⟩
    by_cases ht : t < s.ths.length
    · have e : s.ths.getD t [] = s.ths[t] := by simp [List.getD_eq_getElem?_getD, ht]
      rw [e]
      exact h5 _ (List.getElem_mem ht)
    · rw [List.getD_eq_getElem?_getD, List.getElem?_eq_none (by omega)]
      simp
  · obtain ⟨h1, h2, h3, h4, h5, h6⟩ := h
    refine ⟨⟨⟨⟨⟨h1, h2⟩, h3⟩, h4⟩, fun l hl => ?_⟩, h6⟩
    obtain ⟨t, ht, rfl⟩ := List.getElem_of_mem hl
    have e : s.ths.getD t [] = s.ths[t] := by simp [List.getD_eq_getElem?_getD, ht]
    rw [← e]
    exact h5 t
/-- What bytes tell is valid. -/
theorem step_chk {s : Sc} (f : Nat → Int) (hf : ∀ j, 0 ≤ f j ∧ f j ≤ 255) (h : chkS s = true) : chkS (stepS s f) = true := by
  rw [chk_iff] at h
  obtain ⟨h1, h2, h3, h4, h5, h6⟩ := h
  have same : chkS s = true := by rw [chk_iff]; exact ⟨h1, h2, h3, h4, h5, h6⟩
  unfold stepS
  split
  · split
    · rename_i hc
      simp only [isCap, Bool.and_eq_true, decide_eq_true_eq] at hc
      rw [chk_iff]
      refine ⟨?_, ?_, h3, hc.1.1, fun t => ?_, h6⟩
      · simp only [growL_len]; omega
      · simp only [growL_len]; omega
      · simp only [growL_getD]; exact h5 t
    · exact same
  · split
    · split
      · rename_i hc
        simp only [isOp, Bool.and_eq_true, decide_eq_true_eq, Bool.not_eq_true', fullS, Bool.and_eq_false_iff, decide_eq_false_iff_not] at hc
        have hp := hf 1
        have hl : (f 1).toNat < (growL s.ths ((f 1).toNat + 1)).length := by rw [growL_len]; omega
        rw [chk_iff]
        refine ⟨?_, ?_, h3, h4, fun t => ?_, h6⟩
        · simp only [addL_len, growL_len]; omega
        · simp only [addL_len, growL_len]; omega
        · simp only [addL_getD _ _ _ _ hl, growL_getD]
          split
          · rename_i ht
            have := h5 (f 1).toNat
            refine ⟨?_, fun x hx => ?_⟩
            · rw [List.length_append]
              rcases hc.2 with h | h
              · rw [List.getD_eq_getElem?_getD, List.getElem?_eq_none (by omega)]; simp
              · have := this.1
                simp only [List.length_cons, List.length_nil]; omega
            · rcases List.mem_append.1 hx with hx | hx
              · exact this.2 x hx
              · rw [List.mem_singleton] at hx
                rw [hx]; exact hc.1.2
          · exact h5 t
      · exact same
    · split
      · split
        · rename_i hc
          simp only [isPk, Bool.and_eq_true, decide_eq_true_eq] at hc
          have hp := hf 2
          rw [chk_iff]
          refine ⟨h1, h2, ?_, h4, h5, fun p hp => ?_⟩
          · simp only [List.length_append, List.length_cons, List.length_nil]; omega
          · rcases List.mem_append.1 hp with hp | hp
            · exact h6 p hp
            · rw [List.mem_singleton] at hp
              subst hp
              simp only [pkB, fitB, if_true, Bool.and_eq_true, decide_eq_true_eq]
              omega
        · exact same
      · exact same
theorem readN_chk (g : Nat → Int) (hg : ∀ j, 0 ≤ g j ∧ g j ≤ 255) : ∀ n, chkS (readN g n) = true
  | 0 => by rw [readN]; decide
  | n + 1 => step_chk _ (fun _ => hg _) (readN_chk g hg n)
/-- The bytes of a string, as numbers. -/
def bt (b : ByteArray) (i : Nat) : Int := ((b.data[i]?.getD 0).toNat : Int)
theorem bt_bd (b : ByteArray) (i : Nat) : 0 ≤ bt b i ∧ bt b i ≤ 255 := by
  unfold bt
  have := (b.data[i]?.getD 0).toNat_lt
  omega
theorem bt_extract (b : ByteArray) (i j k : Nat) (h : i + k < j) : bt (b.extract i j) k = bt b (i + k) := by
  unfold bt
  rw [ByteArray.data_extract, Array.getElem?_extract]
  split
  · rfl
  · rename_i hn
    rw [Array.getElem?_eq_none (by omega)]
theorem bt_left (a b : ByteArray) (i : Nat) (h : i < a.size) : bt (a ++ b) i = bt a i := by
  unfold bt
  rw [ByteArray.data_append, Array.getElem?_append_left h]
theorem bt_right (a b : ByteArray) (i : Nat) (h : a.size ≤ i) : bt (a ++ b) i = bt b (i - a.size) := by
  unfold bt
  rw [ByteArray.data_append, Array.getElem?_append_right h]
  rfl
/-- The script that bytes tell. -/
def readB (b : ByteArray) : Sc := readN (bt b) (b.size / 8)
theorem readB_more (b m : ByteArray) (hb : b.size % 8 = 0) (hm : m.size < 8) : readB (b ++ m) = readB b := by
  unfold readB
  rw [ByteArray.size_append, show (b.size + m.size) / 8 = b.size / 8 by omega]
  exact readN_congr _ (fun i hi => bt_left b m i (by omega))
theorem readB_add (b x : ByteArray) (hb : b.size % 8 = 0) (hx : x.size = 8) : readB (b ++ x) = stepS (readB b) (bt x) := by
  unfold readB
  rw [ByteArray.size_append, hx, show (b.size + 8) / 8 = b.size / 8 + 1 by omega, readN]
  rw [readN_congr _ (fun i hi => bt_left b x i (by omega))]
  refine step_congr _ (fun j hj => ?_)
  rw [bt_right _ _ _ (by omega), show 8 * (b.size / 8) + j - b.size = j by omega]
theorem readB_skip (b x : ByteArray) (k : Nat) (hb : b.size % 8 = 0) (hx : x.size = 8) (hk : 8 * k ≤ b.size) (hs : ∀ s, stepS s (bt x) = s) :
    readB (b.extract 0 (8 * k) ++ x ++ b.extract (8 * k) b.size) = readB b := by
  have s1 : (b.extract 0 (8 * k)).size = 8 * k := by rw [ByteArray.size_extract]; omega
  have s2 : (b.extract 0 (8 * k) ++ x).size = 8 * k + 8 := by rw [ByteArray.size_append, s1, hx]
  have s3 : (b.extract (8 * k) b.size).size = b.size - 8 * k := by rw [ByteArray.size_extract]; omega
  unfold readB
  rw [ByteArray.size_append, s2, s3, show (8 * k + 8 + (b.size - 8 * k)) / 8 = b.size / 8 + 1 by omega]
  refine readN_skip k (fun i hi => ?_) (fun s => ?_) (b.size / 8) (fun i h1 h2 => ?_) (b.size / 8) (by omega) (by omega)
  · rw [bt_left _ _ _ (by omega), bt_left _ _ _ (by omega), bt_extract _ _ _ _ (by omega), Nat.zero_add]
  · refine Eq.trans (step_congr s (fun j hj => ?_)) (hs s)
    rw [bt_left _ _ _ (by omega), bt_right _ _ _ (by omega), s1, show 8 * k + j - 8 * k = j by omega]
  · rw [bt_right _ _ _ (by omega), s2, bt_extract _ _ _ _ (by omega)]
    congr 1
    omega
end Go.Proofs.YtdpolejbceoldaaDoor
