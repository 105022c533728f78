import Derived.Test.YtidhhadelgdeiaaCalls
namespace Go.Proofs.Ytidhhadelgdeiaa
open Go.RowKit

/-- What thread t holds, of the first k latches. -/
def heldK (L : List Int) (t : Int) : Nat → List Int
  | 0 => []
  | k+1 => heldK L t k ++ (if L.getD k 0 ≠ -1 ∧ L.getD k 0 = t then [(k : Int)] else [])
theorem heldK_len (L : List Int) (t : Int) : ∀ k, (heldK L t k).length ≤ k
  | 0 => Nat.le_refl _
  | k+1 => by have := heldK_len L t k; unfold heldK; split <;> simp <;> omega
theorem info3 : (Try.prog.info? 3).map (fun i => (i.zero, i.size, i.bytes)) = some (some (.int .i64 0), 1, 8) := by kernel_rfl

theorem held_any (p g : Nat) (t : Int) (L : List Int) (w : World) (h : Lat w p g L) :
   Calls Try.prog 13 #[.pointer (some ⟨p, 0, none⟩), .int .i64 t] w fun e w' => ∃ v, e = .returned v ∧ w'.ownsRow w.heap.size 3 1 v (heldK L t L.length).length ((heldK L t L.length).map (Value.int .i64)) ∧ Below w.heap.size w w' := by
  have hl := h.len
  have hp := h.hp.cell 0
  simp at hp
  have hpl := h.hp.lt
  obtain ⟨cs, hg, hs, hc⟩ := h.hg
  have hgl := hg.lt
  have HC := Lib.hid hc
  clear hc hs h
  have HG := Lib.hid hg
  clear hg
  obtain ⟨i0, hi, hz0, hz1, hz2⟩ := info_parts info3
  go_enter Try.func13, Try.ntmps13
  go_wp2
  go_loopw [5, 15] (fun r i wr => ∃ k : Nat, k ≤ L.length ∧ i = .int .i64 k ∧ wr.ownsRow w.heap.size 3 1 r (heldK L t k).length ((heldK L t k).map (Value.int .i64)) ∧ Below w.heap.size w wr) (fun _ i _ => L.length - (intOf i).toNat)
  case atStart => exact ⟨0, Nat.zero_le _, rfl, World.ownsRow_nil _ _ _ _, Below.refl _ _⟩
  case round =>
    obtain ⟨k, hk, rfl, hown, hbel⟩ := hrel
    have hhl := heldK_len L t k
    by_cases hlt : k < L.length
    · obtain ⟨v, hv, hlc⟩ := HC.out k hlt
      have hcg := (hbel.cell (p := ⟨g, k, none⟩) hgl).trans (HG.out.cell k)
      rw [hv] at hcg
      clear hv
      have hsz := hbel.size
      rcases hlc with ⟨h0, rfl⟩ | ⟨h0, b, rfl, hbk⟩
      · have E := Lib.hid (show heldK L t (k+1) = heldK L t k by rw [heldK, getD_lt hlt, if_neg (by omega)]; simp)
        clear h0
        go_wp2
        go_roundw
        case rel => exact ⟨k+1, by omega, by go_num, by rw [E.out]; exact hown, hbel⟩
        case measure => simp [intOf]; omega
      · have hcb := (hbel.cell (p := ⟨b, 0, none⟩) hbk.lt).trans (hbk.cell 0)
        simp at hcb
        clear hbk
        by_cases hst : L[k] = t
        · have E := Lib.hid (show heldK L t (k+1) = heldK L t k ++ [(k:Int)] by rw [heldK, getD_lt hlt, if_pos (by omega)])
          have e' : (L[k] == t) = true := by simpa using hst
          clear h0 hst
          generalize L[k] = s at *
          go_wp2_with (at_builtin; refine wpList_append_own _ rfl _ _ 29 rfl (w.heap.size) 3 i0 (.int .i64 0) 1 8 Try.underlying29 hi hz0 hz1 hz2 rfl (by decide) _ _ _ rfl (hown.alloc _) ⟨wr.heap.size, 0, none⟩ 1 1 [.int .i64 k] rfl rfl ?c1 ?c2 ?c3 ?c4 ?c5 ?_)
          case c1 => exact cell_one_new _ _ _
          case c2 => simp [Value.oneCell']
          case c3 => simp only [maxLen]; omega
          case c4 => omega
          case c5 => simp; omega
          intro v' w1 hown1 hg1 _
          have hb1 : Below w.heap.size w w1 := (hbel.alloc hsz _).grown hg1 (by simp; omega) (fun q hq => (hown.lt q hq).1)
          clear hg1 hown hbel
          go_wp2
          go_roundw
          case rel => exact ⟨k+1, by omega, by go_num, by rw [E.out]; simpa using hown1, hb1⟩
          case measure => simp [intOf]; omega
        · have E := Lib.hid (show heldK L t (k+1) = heldK L t k by rw [heldK, getD_lt hlt, if_neg (by omega)]; simp)
          have e' : (L[k] == t) = false := by simpa using hst
          clear h0 hst
          generalize L[k] = s at *
          go_wp2
          go_roundw
          case rel => exact ⟨k+1, by omega, by go_num, by rw [E.out]; exact hown, hbel⟩
          case measure => simp [intOf]; omega
    · go_wp2
      go_ret
      have : k = L.length := by omega
      subst this
      exact ⟨_, rfl, hown, hbel⟩

theorem run_make_rowN {P : Program} (t e : TypeId) (i : TypeInfo) (z : Value) (ht : P.underlying t = some (.slice e)) (hi : P.info? e = some i) (hz : i.zero = some z)
    (kl kc : IntKind) (n c : Nat) (hnc : n ≤ c) (hbytes : i.bytes * c ≤ 281474976710656) (h63 : c ≤ 9223372036854775807) (w : World) :
    (Instr.makeSlice t (.int kl (n : Int)) (.int kc (c : Int))).run P w = .ok (.slice (some ⟨w.heap.size, 0, none⟩) n c) (w.alloc (.cells (madeCells z.cells (c * i.size)) e)) := by
  have hb : (i.bytes : Int) * (c : Int) ≤ 281474976710656 := by
    have h : ((i.bytes * c : Nat) : Int) ≤ 281474976710656 := by omega
    rwa [Int.natCast_mul] at h
  have hr := run_make (P := P) w t e i z ht hi hz kl kc n c (by omega) (by omega) hb (by omega)
  simp only [Int.toNat_natCast] at hr
  exact hr

theorem info49 : (Try.prog.info? 49).map (fun i => (i.zero, i.size, i.bytes)) = some (some (.pointer none), 1, 8) := by kernel_rfl

theorem new_bad (n : Int) (w : World) (h : n < 1 ∨ 16 < n) : Calls Try.prog 10 #[.int .i64 n] w fun e w' => e = .returned (.tuple #[.pointer none, .int .i64 2]) ∧ w = w' := by
  rcases h with h | h
  · go_enter Try.func10, Try.ntmps10
    go_wp2
    go_ret2
    exact ⟨rfl, rfl⟩
  · have : ¬ n < 1 := by omega
    go_enter Try.func10, Try.ntmps10
    go_wp2
    go_ret2
    exact ⟨rfl, rfl⟩

theorem new_ok (n : Nat) (w : World) (h1 : 1 ≤ n) (h2 : n ≤ 16) : Calls Try.prog 10 #[.int .i64 n] w fun e w' => e = .returned (.tuple #[.pointer (some ⟨w.heap.size + 1, 0, none⟩), .int .i64 0]) ∧ Lat w' (w.heap.size + 1) w.heap.size (List.replicate n (-1)) ∧ Below w.heap.size w w' := by
  obtain ⟨i0, hi, hz0, hz1, hz2⟩ := info_parts info49
  have hmk := fun W => run_make_rowN (P := Try.prog) 46 49 i0 _ Try.underlying46 hi hz0 .i64 .i64 n n (Nat.le_refl _) (by rw [hz2]; omega) (by omega) W
  go_enter Try.func10, Try.ntmps10
  go_wp2
  go_ret2
  have hb : Below w.heap.size w ((w.alloc (Obj.cells (madeCells #[Value.pointer none] n) 49)).alloc (Obj.cells #[Value.slice (some { block := w.heap.size, off := 0 }) n n] 48)) :=
    ((Below.refl _ _).alloc (Nat.le_refl _) _).alloc (by simp) _
  have h0 : Blk ((w.alloc (Obj.cells (madeCells #[Value.pointer none] n) 49)).alloc (Obj.cells #[Value.slice (some { block := w.heap.size, off := 0 }) n n] 48)) w.heap.size 49 (madeCells #[Value.pointer none] n) := (Blk.new w 49 _).alloc _
  have h1 := Blk.new (w.alloc (Obj.cells (madeCells #[Value.pointer none] n) 49)) 48 #[Value.slice (some { block := w.heap.size, off := 0 }) n n]
  refine ⟨rfl, ⟨by simpa using h1, ⟨_, h0, by simp [size_madeCells], fun k hk => ⟨.pointer none, ?_, .inl ⟨by simp, rfl⟩⟩⟩, by simpa using h2⟩, hb⟩
  rw [← Array.getElem?_toList, toList_madeCells_one]
  simp at hk
  simp [hk]

theorem grown_below {w w' : World} {r : Option Nat} {B : Nat} (h : Below B w w') (hB : B = w.heap.size) : w.grownBy w' r := by
  subst hB
  exact ⟨h.os, h.tape, h.output, h.size, fun k hk _ => h.block k hk⟩

/-! The total model. -/
def tryB (L : List Int) (k t : Int) : Bool := okB L.length k t && decide (L.getD k.toNat 0 = -1)
def tryC (L : List Int) (k t : Int) : Int := if okB L.length k t = false then 2 else if L.getD k.toNat 0 = t then 4 else 0
def tryS (L : List Int) (k t : Int) : List Int := if okB L.length k t = true ∧ L.getD k.toNat 0 = -1 then L.set k.toNat t else L
def freeC (L : List Int) (k t : Int) : Int := if okB L.length k t = false then 2 else if L.getD k.toNat 0 = t then 0 else 6
def freeS (L : List Int) (k t : Int) : List Int := if okB L.length k t = true ∧ L.getD k.toNat 0 = t then L.set k.toNat (-1) else L
def hasB (L : List Int) (k : Int) : Bool := okB L.length k 0 && decide (L.getD k.toNat 0 ≠ -1)
def hasV (L : List Int) (k : Int) : Int := if hasB L k = true then L.getD k.toNat 0 else 0

theorem try_any (p g : Nat) (k t : Int) (L : List Int) (w : World) (h : Lat w p g L) :
   Calls Try.prog 11 #[.pointer (some ⟨p, 0, none⟩), .int .i64 k, .int .i64 t] w fun e w' => e = .returned (.tuple #[.bool (tryB L k t), .int .i64 (tryC L k t)]) ∧ Lat w' p g (tryS L k t) ∧ w.grownBy w' (some g) := by
  cases hk : okB L.length k t with
  | false =>
    refine (try_bad p g k t L w h hk).mono ?_
    rintro e w' ⟨rfl, rfl⟩
    refine ⟨by simp [tryB, tryC, hk], by simpa [tryS, hk] using h, grown_refl _ _⟩
  | true =>
    have hk' := hk
    simp [okB] at hk'
    obtain ⟨k', rfl⟩ := Int.eq_ofNat_of_zero_le hk'.1
    by_cases hf : L.getD k' 0 = -1
    · refine (try_free p g k' t L w h hk hf).mono ?_
      rintro e w' ⟨rfl, h1, h2⟩
      have ht : ¬ (-1 = t) := by omega
      exact ⟨by simp only [tryB, tryC, hk, Int.toNat_natCast, hf]; simp [ht], by simpa only [tryS, hk, Int.toNat_natCast, hf, and_self, if_true] using h1, h2⟩
    · refine (try_taken p g k' t L w h hk hf).mono ?_
      rintro e w' ⟨rfl, rfl⟩
      refine ⟨by simp only [tryB, tryC, hk, Int.toNat_natCast, hf, takenC]; simp, by simpa only [tryS, hk, Int.toNat_natCast, hf, and_false, if_false] using h, grown_refl _ _⟩

theorem free_any (p g : Nat) (k t : Int) (L : List Int) (w : World) (h : Lat w p g L) :
   Calls Try.prog 12 #[.pointer (some ⟨p, 0, none⟩), .int .i64 k, .int .i64 t] w fun e w' => e = .returned (.int .i64 (freeC L k t)) ∧ Lat w' p g (freeS L k t) ∧ w.grownBy w' (some g) := by
  cases hk : okB L.length k t with
  | false =>
    refine (free_bad p g k t L w h hk).mono ?_
    rintro e w' ⟨rfl, rfl⟩
    refine ⟨by simp [freeC, hk], by simpa [freeS, hk] using h, grown_refl _ _⟩
  | true =>
    have hk' := hk
    simp [okB] at hk'
    obtain ⟨k', rfl⟩ := Int.eq_ofNat_of_zero_le hk'.1
    by_cases hf : L.getD k' 0 = t
    · refine (free_own p g k' t L w h hk hf).mono ?_
      rintro e w' ⟨rfl, h1, h2⟩
      exact ⟨by simp only [freeC, hk, Int.toNat_natCast, hf]; simp, by simpa only [freeS, hk, Int.toNat_natCast, hf, and_self, if_true] using h1, h2⟩
    · refine (free_not p g k' t L w h hk hf).mono ?_
      rintro e w' ⟨rfl, rfl⟩
      refine ⟨by simp only [freeC, hk, Int.toNat_natCast, hf]; simp, by simpa only [freeS, hk, Int.toNat_natCast, hf, and_false, if_false] using h, grown_refl _ _⟩

theorem holder_any (p g : Nat) (k : Int) (L : List Int) (w : World) (h : Lat w p g L) :
   Calls Try.prog 15 #[.pointer (some ⟨p, 0, none⟩), .int .i64 k] w fun e w' => e = .returned (.tuple #[.int .i64 (hasV L k), .bool (hasB L k)]) ∧ w = w' := by
  cases hk : okB L.length k 0 with
  | false =>
    refine (holder_bad p g k L w h hk).mono ?_
    rintro e w' ⟨rfl, rfl⟩
    exact ⟨by simp [hasV, hasB, hk], rfl⟩
  | true =>
    have hk' := hk
    simp [okB] at hk'
    obtain ⟨k', rfl⟩ := Int.eq_ofNat_of_zero_le hk'.1
    refine (holder_ok p g k' L w h (by omega)).mono ?_
    rintro e w' ⟨rfl, rfl⟩
    refine ⟨?_, rfl⟩
    by_cases hf : L.getD k' 0 = -1
    · simp only [hasV, hasB, hk, Int.toNat_natCast, hf, holderR]; simp
    · have h2 : hasB L k' = true := by simp only [hasB, hk, Int.toNat_natCast]; simpa using hf
      simp only [hasV, h2, Int.toNat_natCast, holderR, if_neg hf, if_true]

theorem pick_any (n m : Int) (h1 : 1 ≤ m) (h2 : m ≤ 1000000) (w : World) :
   Calls Try.prog 9 #[.int .i64 n, .int .i64 m] w fun e w' => e = .returned (.int .i64 (n % m)) ∧ w = w' := by
  have hm : ¬ m < 1 := by omega
  have h3 : ¬ m = 0 := by omega
  have hm0 : (m == 0) = false := by simpa using h3
  have ew : IntKind.i64.wrap (n.tmod m) = n.tmod m := by
    apply IntWalk.i64_in
    have := Int.tmod_lt_of_pos n (show 0 < m by omega)
    have := Int.lt_tmod_of_pos n (show 0 < m by omega)
    omega
  have e1 : n.tmod m < 0 → n % m = n.tmod m + m := by
    intro h
    have h4 := Int.tmod_eq_emod (a := n) (b := m)
    split at h4
    · have := Int.emod_nonneg n h3; omega
    · omega
  have e2 : ¬ n.tmod m < 0 → n % m = n.tmod m := by
    intro h
    have h4 := Int.tmod_eq_emod (a := n) (b := m)
    split at h4
    · omega
    · have := Int.emod_lt_of_pos n (show 0 < m by omega); omega
  have hl := Int.lt_tmod_of_pos n (show 0 < m by omega)
  have hl2 := Int.tmod_lt_of_pos n (show 0 < m by omega)
  by_cases h : n.tmod m < 0
  · have E := Lib.hid (e1 h)
    clear e1 e2
    go_enter Try.func9, Try.ntmps9
    go_wp2
    go_ret
    refine ⟨?_, rfl⟩
    rw [E.out]
    exact congrArg (fun x => Ending.returned (.int .i64 x)) (by first | rfl | (simp only [wrap64]; omega))
  · have E := Lib.hid (e2 h)
    clear e1 e2
    go_enter Try.func9, Try.ntmps9
    go_wp2
    go_ret
    refine ⟨?_, rfl⟩
    rw [E.out]
    rfl
end Go.Proofs.Ytidhhadelgdeiaa
