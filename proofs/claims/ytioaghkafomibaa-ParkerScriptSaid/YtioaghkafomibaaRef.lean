/-
  The contracts of the reference's parker over the same list of states. No condition beside a parker that reads so.
-/
import Derived.Test.YtioaghkafomibaaBack
import Derived.Deep.RegionWith
namespace Go.Proofs.Ytioaghkafomibaa
open Go.RowKit

def bitsOf (b : Int) (L : List Int) : Array Value := (L.map fun s => Value.bool (decide (s = b))).toArray
theorem bitsOf_at (b : Int) (L : List Int) (k : Nat) (h : k < L.length) : (bitsOf b L)[k]? = some (.bool (decide (L.getD k 0 = b))) := by simp [bitsOf, h, List.getD]
theorem bitsOf_set (b : Int) (L : List Int) (k : Nat) (t : Int) : (bitsOf b L).setIfInBounds k (.bool (decide (t = b))) = bitsOf b (L.set k t) := by
  apply Array.toList_inj.1
  simp [bitsOf, List.map_set]

/-- The reference's parker at p: parks at g, tokens at t. -/
structure ParR (w : World) (p g t : Nat) (L : List Int) : Prop where
  hp : Blk w p 51 #[.slice (some ⟨g, 0, none⟩) L.length L.length, .slice (some ⟨t, 0, none⟩) L.length L.length]
  hg : Blk w g 4 (bitsOf 1 L)
  ht : Blk w t 4 (bitsOf 2 L)
  ne : g ≠ t
  len : L.length ≤ 8
  st : ∀ k, k < L.length → L.getD k 0 = 0 ∨ L.getD k 0 = 1 ∨ L.getD k 0 = 2

theorem isR_any (p g t : Nat) (a : Int) (L : List Int) (w : World) (h : ParR w p g t L) :
   Calls Try.prog 30 #[.pointer (some ⟨p, 0, none⟩), .int .i64 a] w fun e w' => e = .returned (.bool (okT L a)) ∧ w = w' := by
  have hl := h.len
  have hc := h.hp.cell 0
  simp at hc
  unfold okT
  clear h
  by_cases h1 : 0 ≤ a
  · by_cases h2 : a < L.length
    · rw [show decide (0 ≤ a ∧ a < L.length) = true by simp [h1, h2]]
      go_enter Try.func30, Try.ntmps30
      go_wp2
      go_ret
      exact ⟨rfl, rfl⟩
    · rw [show decide (0 ≤ a ∧ a < L.length) = false by simp [h2]]
      go_enter Try.func30, Try.ntmps30
      go_wp2
      go_ret
      exact ⟨rfl, rfl⟩
  · rw [show decide (0 ≤ a ∧ a < L.length) = false by simp [h1]]
    go_enter Try.func30, Try.ntmps30
    go_wp2
    go_ret
    exact ⟨rfl, rfl⟩
theorem parkedR_any (p g t : Nat) (a : Int) (L : List Int) (w : World) (h : ParR w p g t L) :
   Calls Try.prog 24 #[.pointer (some ⟨p, 0, none⟩), .int .i64 a] w fun e w' => e = .returned (.bool (isB L a 1)) ∧ w = w' := by
  have H := Lib.hid (isR_any p g t a L w h)
  cases hk : okT L a with
  | false =>
    rw [show isB L a 1 = false by simp [isB, hk]]
    clear h
    go_enter Try.func24, Try.ntmps24
    go_wp2_with (go_at_call 30; refine H.out.mono ?_; rintro e w' ⟨rfl, rfl⟩)
    go_ret
    exact ⟨rfl, rfl⟩
  | true =>
    obtain ⟨k, rfl, hlt⟩ := okT_nat hk
    have hl := h.len
    have hc := h.hp.cell 0
    simp at hc
    have hcg := h.hg.cell k
    rw [bitsOf_at 1 L k hlt] at hcg
    rw [isB_in L k hlt]
    clear h
    generalize decide (L.getD k 0 = 1) = x at *
    go_enter Try.func24, Try.ntmps24
    go_wp2_with (go_at_call 30; refine H.out.mono ?_; rintro e w' ⟨rfl, rfl⟩)
    go_ret
    exact ⟨rfl, rfl⟩
theorem tokenR_any (p g t : Nat) (a : Int) (L : List Int) (w : World) (h : ParR w p g t L) :
   Calls Try.prog 25 #[.pointer (some ⟨p, 0, none⟩), .int .i64 a] w fun e w' => e = .returned (.bool (isB L a 2)) ∧ w = w' := by
  have H := Lib.hid (isR_any p g t a L w h)
  cases hk : okT L a with
  | false =>
    rw [show isB L a 2 = false by simp [isB, hk]]
    clear h
    go_enter Try.func25, Try.ntmps25
    go_wp2_with (go_at_call 30; refine H.out.mono ?_; rintro e w' ⟨rfl, rfl⟩)
    go_ret
    exact ⟨rfl, rfl⟩
  | true =>
    obtain ⟨k, rfl, hlt⟩ := okT_nat hk
    have hl := h.len
    have hc := h.hp.cell 1
    simp at hc
    have hcg := h.ht.cell k
    rw [bitsOf_at 2 L k hlt] at hcg
    rw [isB_in L k hlt]
    clear h
    generalize decide (L.getD k 0 = 2) = x at *
    go_enter Try.func25, Try.ntmps25
    go_wp2_with (go_at_call 30; refine H.out.mono ?_; rintro e w' ⟨rfl, rfl⟩)
    go_ret
    exact ⟨rfl, rfl⟩
theorem lenR_any (p g t : Nat) (L : List Int) (w : World) (h : ParR w p g t L) :
   Calls Try.prog 27 #[.pointer (some ⟨p, 0, none⟩)] w fun e w' => e = .returned (.int .i64 L.length) ∧ w = w' := by
  have hl := h.len
  have hc := h.hp.cell 0
  simp at hc
  clear h
  go_enter Try.func27, Try.ntmps27
  go_wp2
  go_ret
  exact ⟨rfl, rfl⟩

/-- Only the two rows g and t, and what is new, have turned. -/
structure Grown2 (w w' : World) (g t : Nat) : Prop where
  os : w'.os = w.os
  tape : w'.tape = w.tape
  output : w'.output = w.output
  size : w.heap.size ≤ w'.heap.size
  block : ∀ k, k < w.heap.size → k ≠ g → k ≠ t → w'.heap[k]? = w.heap[k]?
theorem Grown2.refl (w : World) (g t : Nat) : Grown2 w w g t := ⟨rfl, rfl, rfl, Nat.le_refl _, fun _ _ _ _ => rfl⟩
theorem Grown2.setG {w : World} {g t k : Nat} {v : Value} : Grown2 w (w.setCell ⟨g, k, none⟩ v) g t :=
  ⟨rfl, rfl, rfl, by simp [World.setCell], fun i _ h1 _ => Below.heap_setCell _ _ _ _ h1⟩
theorem Grown2.setT {w : World} {g t k : Nat} {v : Value} : Grown2 w (w.setCell ⟨t, k, none⟩ v) g t :=
  ⟨rfl, rfl, rfl, by simp [World.setCell], fun i _ _ h1 => Below.heap_setCell _ _ _ _ h1⟩
theorem below_grown2 {B : Nat} {a w w' : World} {g t : Nat} (h : Below B a w) (hg : Grown2 w w' g t) (hB : B ≤ w.heap.size) (h1 : B ≤ g) (h2 : B ≤ t) : Below B a w' :=
  h.trans ⟨hg.os, hg.tape, hg.output, hg.size, fun k hk => hg.block k (by omega) (by omega) (by omega)⟩
theorem Blk.grown2 {w w' : World} {b g t : Nat} {e : TypeId} {cs : Array Value} (h : Blk w b e cs) (hg : Grown2 w w' g t) (h1 : b ≠ g) (h2 : b ≠ t) : Blk w' b e cs := (hg.block b h.lt h1 h2).trans h
theorem Par.grown2 {w w' : World} {p g g' t : Nat} {L : List Int} (h : Par w p g L) (hb : Grown2 w w' g' t) (h1 : p ≠ g') (h2 : p ≠ t) (h3 : g ≠ g') (h4 : g ≠ t) : Par w' p g L :=
  ⟨h.hp.grown2 hb h1 h2, h.hg.grown2 hb h3 h4, h.len, h.st⟩
theorem ParR.grown {w w' : World} {p g t b : Nat} {L : List Int} (h : ParR w p g t L) (hb : w.grownBy w' (some b)) (h1 : p ≠ b) (h2 : g ≠ b) (h3 : t ≠ b) : ParR w' p g t L :=
  ⟨h.hp.grown hb (fun e => by injection e with e; exact h1 e), h.hg.grown hb (fun e => by injection e with e; exact h2 e), h.ht.grown hb (fun e => by injection e with e; exact h3 e), h.ne, h.len, h.st⟩
theorem ParR.below {w w' : World} {p g t : Nat} {L : List Int} (h : ParR w p g t L) (hb : Below w.heap.size w w') : ParR w' p g t L :=
  ⟨h.hp.below' hb, h.hg.below' hb, h.ht.below' hb, h.ne, h.len, h.st⟩
theorem ParR.drewN {w : World} {p g t : Nat} {L : List Int} (h : ParR w p g t L) (n : Nat) : ParR (w.drewN n) p g t L := ⟨h.hp, h.hg, h.ht, h.ne, h.len, h.st⟩
theorem bitsOf_same (b : Int) (L : List Int) (k : Nat) (s : Int) (hk : k < L.length) (h : decide (s = b) = decide (L.getD k 0 = b)) : bitsOf b (L.set k s) = bitsOf b L := by
  rw [← bitsOf_set, h]
  apply Array.ext_getElem?
  intro i
  rw [Array.getElem?_setIfInBounds]
  by_cases e : k = i
  · subst e
    rw [if_pos rfl, bitsOf_at b L k hk, if_pos (by simpa [bitsOf] using hk)]
  · rw [if_neg e]
theorem st_set {L : List Int} (st : ∀ k, k < L.length → L.getD k 0 = 0 ∨ L.getD k 0 = 1 ∨ L.getD k 0 = 2) (k : Nat) (hk : k < L.length) (s : Int) (hs : s = 0 ∨ s = 1 ∨ s = 2) : ∀ j, j < (L.set k s).length → (L.set k s).getD j 0 = 0 ∨ (L.set k s).getD j 0 = 1 ∨ (L.set k s).getD j 0 = 2 := by
  intro j hj
  rw [getD_set _ _ _ _ hk]
  split
  · exact hs
  · exact st j (by simpa using hj)
theorem ParR.storeG {w : World} {p g t : Nat} {L : List Int} (h : ParR w p g t L) (k : Nat) (hk : k < L.length) (s : Int) (hs : s = 0 ∨ s = 1 ∨ s = 2) (he : decide (s = 2) = decide (L.getD k 0 = 2)) (v : Bool) (hv : v = decide (s = 1)) :
    ParR (w.setCell ⟨g, k, none⟩ (.bool v)) p g t (L.set k s) := by
  subst hv
  refine ⟨?_, ?_, ?_, h.ne, by simpa using h.len, st_set h.st k hk s hs⟩
  · rw [List.length_set]; exact h.hp.far (by exact h.hp.ne_ h.hg (by decide)) _
  · rw [← bitsOf_set]; exact h.hg.set_ k _
  · rw [bitsOf_same 2 L k s hk he]; exact h.ht.far (by exact Ne.symm h.ne) _
theorem ParR.storeT {w : World} {p g t : Nat} {L : List Int} (h : ParR w p g t L) (k : Nat) (hk : k < L.length) (s : Int) (hs : s = 0 ∨ s = 1 ∨ s = 2) (he : decide (s = 1) = decide (L.getD k 0 = 1)) (v : Bool) (hv : v = decide (s = 2)) :
    ParR (w.setCell ⟨t, k, none⟩ (.bool v)) p g t (L.set k s) := by
  subst hv
  refine ⟨?_, ?_, ?_, h.ne, by simpa using h.len, st_set h.st k hk s hs⟩
  · rw [List.length_set]; exact h.hp.far (by exact h.hp.ne_ h.ht (by decide)) _
  · rw [bitsOf_same 1 L k s hk he]; exact h.hg.far (by exact h.ne) _
  · rw [← bitsOf_set]; exact h.ht.set_ k _

theorem dropR_any (p g t : Nat) (a : Int) (L : List Int) (w : World) (h : ParR w p g t L) :
   Calls Try.prog 22 #[.pointer (some ⟨p, 0, none⟩), .int .i64 a] w fun e w' => e = .returned (.bool (isB L a 2)) ∧ ParR w' p g t (dropS L a) ∧ Grown2 w w' g t := by
  have H := Lib.hid (tokenR_any p g t a L w h)
  cases hk : isB L a 2 with
  | false =>
    have e : dropS L a = L := by simp [dropS, hk]
    rw [e]
    have h' := Lib.hid h
    clear h e
    go_enter Try.func22, Try.ntmps22
    go_wp2_with (go_at_call 25; refine H.out.mono ?_; rintro e w' ⟨rfl, rfl⟩)
    go_ret
    exact ⟨rfl, h'.out, Grown2.refl _ _ _⟩
  | true =>
    obtain ⟨k, rfl, hlt, hs⟩ := isB_nat hk
    have e : dropS L k = L.set k 0 := by simp [dropS, hk]
    rw [e]
    have fin := Lib.hid (h.storeT k hlt 0 (.inl rfl) (by rw [hs]; first | done | decide) false rfl)
    have hc := h.hp.cell 1
    simp at hc
    have hcg := h.ht.cell k
    rw [bitsOf_at 2 L k hlt] at hcg
    have hl := h.len
    have hf := h.ht.frozen k
    clear h e hs
    go_enter Try.func22, Try.ntmps22
    go_wp2_with (go_at_call 25; refine H.out.mono ?_; rintro e w' ⟨rfl, rfl⟩)
    go_ret
    exact ⟨rfl, fin.out, Grown2.setT⟩
theorem parkR_any (p g t : Nat) (a : Int) (L : List Int) (w : World) (h : ParR w p g t L) :
   Calls Try.prog 23 #[.pointer (some ⟨p, 0, none⟩), .int .i64 a] w fun e w' => e = .returned (.tuple #[.bool (isB L a 2), .int .i64 (parkC L a)]) ∧ ParR w' p g t (parkS L a) ∧ Grown2 w w' g t := by
  have H := Lib.hid (isR_any p g t a L w h)
  cases hk : okT L a with
  | false =>
    rw [show isB L a 2 = false by simp [isB, hk], show parkC L a = 2 by simp [parkC, hk], show parkS L a = L by simp [parkS, hk]]
    have h' := Lib.hid h
    clear h
    go_enter Try.func23, Try.ntmps23
    go_wp2_with (go_at_call 30; refine H.out.mono ?_; rintro e w' ⟨rfl, rfl⟩)
    go_ret2
    exact ⟨rfl, h'.out, Grown2.refl _ _ _⟩
  | true =>
    obtain ⟨k, rfl, hlt⟩ := okT_nat hk
    rw [isB_in L k hlt, parkC_eq L k hlt, parkS_eq L k hlt]
    have hl := h.len
    have hc0 := h.hp.cell 0
    have hc1 := h.hp.cell 1
    simp at hc0 hc1
    have hg := h.hg.cell k
    have ht := h.ht.cell k
    rw [bitsOf_at 1 L k hlt] at hg
    rw [bitsOf_at 2 L k hlt] at ht
    have hfg := h.hg.frozen k
    have hft := h.ht.frozen k
    rcases h.st k hlt with hs | hs | hs
    · have fin := Lib.hid (h.storeG k hlt 1 (.inr (.inl rfl)) (by rw [hs]; first | done | decide) true rfl)
      rw [hs] at hg ht ⊢
      simp at hg ht
      clear h hs
      go_enter Try.func23, Try.ntmps23
      go_wp2_with (go_at_call 30; refine H.out.mono ?_; rintro e w' ⟨rfl, rfl⟩)
      go_ret2
      exact ⟨rfl, fin.out, Grown2.setG⟩
    · have e1 : L.set k 1 = L := by have := set_self L k hlt; rw [hs] at this; exact this
      have fin := Lib.hid (show ParR w p g t (L.set k 1) by rw [e1]; exact h)
      rw [hs] at hg ht ⊢
      simp at hg ht
      clear h hs e1
      go_enter Try.func23, Try.ntmps23
      go_wp2_with (go_at_call 30; refine H.out.mono ?_; rintro e w' ⟨rfl, rfl⟩)
      go_ret2
      exact ⟨rfl, fin.out, Grown2.refl _ _ _⟩
    · have fin := Lib.hid (h.storeT k hlt 0 (.inl rfl) (by rw [hs]; first | done | decide) false rfl)
      rw [hs] at hg ht ⊢
      simp at hg ht
      clear h hs
      go_enter Try.func23, Try.ntmps23
      go_wp2_with (go_at_call 30; refine H.out.mono ?_; rintro e w' ⟨rfl, rfl⟩)
      go_ret2
      exact ⟨rfl, fin.out, Grown2.setT⟩
theorem unparkR_any (p g t : Nat) (a : Int) (L : List Int) (w : World) (h : ParR w p g t L) :
   Calls Try.prog 21 #[.pointer (some ⟨p, 0, none⟩), .int .i64 a] w fun e w' => e = .returned (.tuple #[.bool (isB L a 1), .int .i64 (unC L a)]) ∧ ParR w' p g t (unS L a) ∧ Grown2 w w' g t := by
  have H := Lib.hid (isR_any p g t a L w h)
  cases hk : okT L a with
  | false =>
    rw [show isB L a 1 = false by simp [isB, hk], unC_bad hk, show unS L a = L by simp [unS, hk]]
    have h' := Lib.hid h
    clear h
    go_enter Try.func21, Try.ntmps21
    go_wp2_with (go_at_call 30; refine H.out.mono ?_; rintro e w' ⟨rfl, rfl⟩)
    go_ret2
    exact ⟨rfl, h'.out, Grown2.refl _ _ _⟩
  | true =>
    obtain ⟨k, rfl, hlt⟩ := okT_nat hk
    rw [isB_in L k hlt, unC_ok hk, unS_eq L k hlt]
    have hl := h.len
    have hc0 := h.hp.cell 0
    have hc1 := h.hp.cell 1
    simp at hc0 hc1
    have hg := h.hg.cell k
    have ht := h.ht.cell k
    rw [bitsOf_at 1 L k hlt] at hg
    rw [bitsOf_at 2 L k hlt] at ht
    have hfg := h.hg.frozen k
    have hft := h.ht.frozen k
    rcases h.st k hlt with hs | hs | hs
    · have fin := Lib.hid (h.storeT k hlt 2 (.inr (.inr rfl)) (by rw [hs]; first | done | decide) true rfl)
      rw [hs] at hg ht ⊢
      simp at hg ht
      clear h hs
      go_enter Try.func21, Try.ntmps21
      go_wp2_with (go_at_call 30; refine H.out.mono ?_; rintro e w' ⟨rfl, rfl⟩)
      go_ret2
      exact ⟨rfl, fin.out, Grown2.setT⟩
    · have fin := Lib.hid (h.storeG k hlt 0 (.inl rfl) (by rw [hs]; first | done | decide) false rfl)
      rw [hs] at hg ht ⊢
      simp at hg ht
      clear h hs
      go_enter Try.func21, Try.ntmps21
      go_wp2_with (go_at_call 30; refine H.out.mono ?_; rintro e w' ⟨rfl, rfl⟩)
      go_ret2
      exact ⟨rfl, fin.out, Grown2.setG⟩
    · have fin := Lib.hid (h.storeT k hlt 2 (.inr (.inr rfl)) (by rw [hs]; first | done | decide) true rfl)
      rw [hs] at hg ht ⊢
      simp at hg ht
      clear h hs
      go_enter Try.func21, Try.ntmps21
      go_wp2_with (go_at_call 30; refine H.out.mono ?_; rintro e w' ⟨rfl, rfl⟩)
      go_ret2
      exact ⟨rfl, fin.out, Grown2.setT⟩
theorem waitingR_any (p g t : Nat) (L : List Int) (w : World) (h : ParR w p g t L) :
   Calls Try.prog 26 #[.pointer (some ⟨p, 0, none⟩)] w fun e w' => ∃ v, e = .returned v ∧ w'.ownsRow w.heap.size 3 1 v (waitK L L.length).length ((waitK L L.length).map (Value.int .i64)) ∧ Below w.heap.size w w' := by
  have hl := h.len
  have hc := h.hp.cell 0
  simp at hc
  have hpl := h.hp.lt
  have hgl := h.hg.lt
  have HG := Lib.hid h.hg
  clear h
  obtain ⟨i0, hi, hz0, hz1, hz2⟩ := info_parts info_int
  go_enter Try.func26, Try.ntmps26
  go_wp2
  go_loopw [3, 4] (fun r i wr => ∃ k : Nat, k ≤ L.length ∧ i = .int .i64 k ∧ wr.ownsRow w.heap.size 3 1 r (waitK L k).length ((waitK L k).map (Value.int .i64)) ∧ Below w.heap.size w wr) (fun _ i _ => L.length - (intOf i).toNat)
  case atStart => exact ⟨0, Nat.zero_le _, rfl, World.ownsRow_nil _ _ _ _, Below.refl _ _⟩
  case round =>
    obtain ⟨k, hk, rfl, hown, hbel⟩ := hrel
    have hhl := waitK_len L k
    have hsz := hbel.size
    have hc1 := (hbel.cell (p := ⟨p, 0, none⟩) hpl).trans hc
    by_cases hlt : k < L.length
    · have hcg := (hbel.cell (p := ⟨g, k, none⟩) hgl).trans (HG.out.cell k)
      rw [bitsOf_at 1 L k hlt] at hcg
      by_cases hst : L.getD k 0 = 1
      · have E := Lib.hid (show waitK L (k+1) = waitK L k ++ [(k:Int)] by rw [waitK, if_pos hst])
        rw [hst] at hcg
        simp at hcg
        clear hst
        go_wp2_with (at_builtin; refine wpList_append_own _ rfl _ _ 39 rfl (w.heap.size) 3 i0 (.int .i64 0) 1 8 Try.underlying39 hi hz0 hz1 hz2 rfl (by decide) _ _ _ rfl (hown.alloc _) ⟨wr.heap.size, 0, none⟩ 1 1 [.int .i64 k] rfl rfl ?c1 ?c2 ?c3 ?c4 ?c5 ?_)
        case c1 => exact cell_one_new _ _ _
        case c2 => simp [Value.oneCell']
        case c3 => simp only [maxLen]; omega
        case c4 => omega
        case c5 => simp; omega
        intro v' w1 hown1 hg1 _
        have hb1 : Below w.heap.size w w1 := (hbel.alloc hsz _).grown hg1 (by simp; omega) (fun q hq => (hown.lt q hq).1)
        clear hg1 hown hbel hcg hc1
        go_wp2
        go_roundw
        case rel => exact ⟨k+1, by omega, by go_num, by rw [E.out]; simpa using hown1, hb1⟩
        case measure => simp [intOf]; omega
      · have E := Lib.hid (show waitK L (k+1) = waitK L k by rw [waitK, if_neg hst]; simp)
        rw [show decide (L.getD k 0 = 1) = false by simpa using hst] at hcg
        clear hst
        go_wp2
        go_roundw
        case rel => exact ⟨k+1, by omega, by go_num, by rw [E.out]; exact hown, hbel⟩
        case measure => simp [intOf]; omega
    · go_wp2
      go_ret
      have : k = L.length := by omega
      subst this
      exact ⟨_, rfl, hown, hbel⟩
theorem newR_bad (n : Int) (w : World) (h : n < 1 ∨ 8 < n) : Calls Try.prog 20 #[.int .i64 n] w fun e w' => e = .returned (.tuple #[.pointer none, .int .i64 2]) ∧ w = w' := by
  rcases h with h | h
  · go_enter Try.func20, Try.ntmps20
    go_wp2
    go_ret2
    exact ⟨rfl, rfl⟩
  · have : ¬ n < 1 := by omega
    go_enter Try.func20, Try.ntmps20
    go_wp2
    go_ret2
    exact ⟨rfl, rfl⟩
theorem info_bool : (Try.prog.info? 4).map (fun i => (i.zero, i.size, i.bytes)) = some (some (.bool false), 1, 1) := by kernel_rfl
theorem bitsOf_new (b : Int) (n : Nat) (hb : b ≠ 0) : madeCells #[Value.bool false] n = bitsOf b (List.replicate n 0) := by
  apply Array.toList_inj.1
  rw [toList_madeCells_one]
  simp [bitsOf, Ne.symm hb]
theorem newR_fin (w : World) (n g t : Nat) (h2 : n ≤ 8) (h : (g = w.heap.size ∧ t = w.heap.size + 1) ∨ (g = w.heap.size + 1 ∧ t = w.heap.size)) :
    ParR (((w.alloc (Obj.cells (madeCells #[Value.bool false] n) 4)).alloc (Obj.cells (madeCells #[Value.bool false] n) 4)).alloc (Obj.cells #[Value.slice (some { block := g, off := 0 }) n n, Value.slice (some { block := t, off := 0 }) n n] 51)).drew (w.heap.size + 1 + 1) g t (List.replicate n 0)
    ∧ Below w.heap.size w (((w.alloc (Obj.cells (madeCells #[Value.bool false] n) 4)).alloc (Obj.cells (madeCells #[Value.bool false] n) 4)).alloc (Obj.cells #[Value.slice (some { block := g, off := 0 }) n n, Value.slice (some { block := t, off := 0 }) n n] 51)).drew := by
  have b0 : ∀ o, Blk (((w.alloc (Obj.cells (madeCells #[Value.bool false] n) 4)).alloc (Obj.cells (madeCells #[Value.bool false] n) 4)).alloc o) w.heap.size 4 (madeCells #[Value.bool false] n) := fun o => ((Blk.new w 4 _).alloc _).alloc o
  have b1 : ∀ o, Blk (((w.alloc (Obj.cells (madeCells #[Value.bool false] n) 4)).alloc (Obj.cells (madeCells #[Value.bool false] n) 4)).alloc o) (w.heap.size + 1) 4 (madeCells #[Value.bool false] n) := fun o => by
    have := (Blk.new (w.alloc (Obj.cells (madeCells #[Value.bool false] n) 4)) 4 (madeCells #[Value.bool false] n)).alloc o
    simpa using this
  have b2 := Blk.new ((w.alloc (Obj.cells (madeCells #[Value.bool false] n) 4)).alloc (Obj.cells (madeCells #[Value.bool false] n) 4)) 51 #[Value.slice (some { block := g, off := 0 }) n n, Value.slice (some { block := t, off := 0 }) n n]
  have hb : Below w.heap.size w (((w.alloc (Obj.cells (madeCells #[Value.bool false] n) 4)).alloc (Obj.cells (madeCells #[Value.bool false] n) 4)).alloc (Obj.cells #[Value.slice (some { block := g, off := 0 }) n n, Value.slice (some { block := t, off := 0 }) n n] 51)).drew :=
    ((((Below.refl _ _).alloc (Nat.le_refl _) _).alloc (by simp) _).alloc (by simp; omega) _).drew
  have st : ∀ k, k < (List.replicate n (0 : Int)).length → (List.replicate n (0 : Int)).getD k 0 = 0 ∨ (List.replicate n (0 : Int)).getD k 0 = 1 ∨ (List.replicate n (0 : Int)).getD k 0 = 2 := fun k hk => .inl (by simp at hk; simp [List.getD, hk])
  refine ⟨⟨by simpa using b2.drew, ?_, ?_, by omega, by simpa using h2, st⟩, hb⟩
  · rw [← bitsOf_new 1 n (by decide)]
    rcases h with ⟨rfl, rfl⟩ | ⟨rfl, rfl⟩
    · exact b0 _
    · exact b1 _
  · rw [← bitsOf_new 2 n (by decide)]
    rcases h with ⟨rfl, rfl⟩ | ⟨rfl, rfl⟩
    · exact b1 _
    · exact b0 _
set_option maxHeartbeats 1000000 in
theorem newR_ok (n : Nat) (w : World) (h1 : 1 ≤ n) (h2 : n ≤ 8) : Calls Try.prog 20 #[.int .i64 n] w fun e w' => ∃ p g t, e = .returned (.tuple #[.pointer (some ⟨p, 0, none⟩), .int .i64 0]) ∧ ParR w' p g t (List.replicate n 0) ∧ w.heap.size ≤ p ∧ w.heap.size ≤ g ∧ w.heap.size ≤ t ∧ Below w.heap.size w w' := by
  obtain ⟨i0, hi, hz0, hz1, hz2⟩ := info_parts info_bool
  have hmk := fun W => run_make_rowN (P := Try.prog) 22 4 i0 _ Try.underlying22 hi hz0 .i64 .i64 n n (Nat.le_refl _) (by rw [hz2]; omega) (by omega) W
  rw [hz1] at hmk
  go_enter Try.func20, Try.ntmps20
  go_wp2
  go_region
  all_goals
    go_wp2
    go_ret2
  · exact ⟨_, _, _, rfl, (newR_fin w n _ _ h2 (.inl ⟨rfl, rfl⟩)).1, by omega, by omega, by omega, (newR_fin w n _ _ h2 (.inl ⟨rfl, rfl⟩)).2⟩
  · exact ⟨_, _, _, rfl, (newR_fin w n _ _ h2 (.inr ⟨rfl, rfl⟩)).1, by omega, by omega, by omega, (newR_fin w n _ _ h2 (.inr ⟨rfl, rfl⟩)).2⟩
end Go.Proofs.Ytioaghkafomibaa
