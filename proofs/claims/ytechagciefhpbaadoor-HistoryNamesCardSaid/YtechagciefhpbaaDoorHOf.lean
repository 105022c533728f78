/-
  Of: a thread's events. No condition beside a list that can be read.
-/
import Derived.Test.YtechagciefhpbaaDoorHDel
namespace Go.Proofs.YtechagciefhpbaaDoor
set_option linter.unusedSimpArgs false
set_option linter.unusedVariables false
set_option linter.unnecessarySimpa false
open Go.RowKit
theorem info_evt : (Tryd.prog.info? 31).map (fun i => (i.zero, i.size, i.bytes)) = some (some (.agg #[.int .i64 0, .int .i64 0, .bool false, .int .i64 0, .int .i64 0, .int .i64 0, .int .i64 0, .int .i64 0, .int .i64 0]), 9, 72) := by kernel_rfl
theorem ecells_one (L : List Ev) : ∀ u ∈ L.flatMap Ev.cells, u.oneCell' = true := by
  intro u hu
  obtain ⟨x, _, hx⟩ := List.mem_flatMap.1 hu
  simp [Ev.cells] at hx
  rcases hx with rfl | rfl | rfl | rfl | rfl | rfl | rfl | rfl | rfl <;> rfl
/-- A copy of events. -/
theorem clone_ev (v : Value) (L : List Ev) (w : World) (hv : RL w v 9 L.length (L.flatMap Ev.cells)) (hl : L.length ≤ 1000) :
    Calls Tryd.prog 21 #[v] w fun e w' => ∃ a c, e = .returned (.slice a L.length c) ∧ Sep w' [vec 31 9 (.slice a L.length c) L.length (L.flatMap Ev.cells), old w] := by
  obtain ⟨n, hn⟩ : ∃ n, L.length = n := ⟨_, rfl⟩
  rw [hn] at hv hl ⊢
  replace hn := Lib.hid hn
  have hsrc := hv.srcA
  obtain ⟨hlen, a, c, rfl, hc, hna, hr⟩ := hv
  cases a with
  | none =>
    have hc0 := hna rfl
    subst hc0
    have hn0 : n = 0 := by omega
    subst hn0
    have hL : L.flatMap Ev.cells = [] := List.eq_nil_of_length_eq_zero (by simpa using hlen)
    rw [hL]
    clear hL hna hr hsrc hlen hc
    have heq := Lib.run_eql_slice_nil (P := Tryd.prog)
    go_enter Tryd.func21, Tryd.ntmps21
    go_wp2_with fail
    go_ret
    exact ⟨none, 0, rfl, (Sep.start w).vec_nil _ _⟩
  | some ad =>
    have h1 := Lib.hid (ecells_one L)
    obtain ⟨i0, hi, hz0, hz1, hz2⟩ := info_parts info_evt
    have hE := Lib.hid ((Sep.start w).vec_new (World.ownsRow_made w (e := 31) (size := 9) #[] 0 (Nat.le_refl _) (Nat.zero_le _) rfl) ((Below.refl _ _).alloc (Nat.le_refl _) (.cells #[] 31)))
    have hS2 := Lib.hid (show SrcA (w.alloc (.cells #[] 31)) 9 (.slice (some ad) n c) n (L.flatMap Ev.cells) from hsrc.below ((Below.refl _ _).alloc (Nat.le_refl _) _))
    clear hsrc hr hna hlen
    have heq := Lib.run_eql_slice_nil (P := Tryd.prog)
    go_enter Tryd.func21, Tryd.ntmps21
    go_wp2_with (at_builtin; refine wpList_append_sep hE.out rfl _ _ 23 rfl i0 _ 72 Tryd.underlying23 hi hz0 hz1 hz2 rfl (by decide) rfl n (L.flatMap Ev.cells) hS2.out h1.out ?c3 ?c4 ?_)
    case c3 => simp only [maxLen]; omega
    case c4 => omega
    intro a' c' w1 hS1
    try simp only [Nat.zero_add, List.nil_append] at hS1
    replace hS1 := Lib.hid hS1
    go_wp2_with fail
    go_ret
    exact ⟨a', c', by simp, hS1.out⟩
theorem of1_any (t : Int) (B : Nat) (rs : List Res) : PredC_ev 22 #[.pointer (some ⟨B, 0, none⟩)] (fun e => e.thread != t) (blk B 3 #[.int .i64 t] :: rs) := fun W x hS => by
  obtain ⟨_, c0, _⟩ := hS.b1
  obtain ⟨call, thread, invoke, ⟨kind, txn, t_, r, mode, code⟩⟩ := x
  simp only [val_ev]
  replace hS := Lib.hid hS
  have hb : B < W.heap.size := hS.out.gblk.lt
  go_enter Tryd.func22, Tryd.ntmps22
  go_wp2_with fail
  go_ret
  exact ⟨rfl, (Below.refl _ _).alloc (Nat.le_refl _) _⟩
theorem of_any (v : Value) (l : List Ev) (t : Int) (w : World) (hv : RL w v 9 l.length (l.flatMap Ev.cells)) (hl : l.length ≤ 1000) :
    Calls Tryd.prog 12 #[v, .int .i64 t] w fun e w' => ∃ a c, e = .returned (.slice a (l.filter fun e => e.thread == t).length c) ∧ Sep w' [vec 31 9 (.slice a (l.filter fun e => e.thread == t).length c) (l.filter fun e => e.thread == t).length ((l.filter fun e => e.thread == t).flatMap Ev.cells), old w] := by
  have hk : keepL (fun e : Ev => e.thread != t) l = l.filter fun e => e.thread == t := by
    unfold keepL
    congr 1
    funext e
    simp [bne]
  have hB := Lib.hid ((Sep.start w).alloc #[.int .i64 t] 3)
  have HC := Lib.hid (clone_ev v l (w.alloc (.cells #[.int .i64 t] 3)) (hv.below ((Below.refl _ _).alloc (Nat.le_refl _) _)) hl)
  replace hk := Lib.hid hk
  obtain ⟨m, hm⟩ : ∃ m, l.length = m := ⟨_, rfl⟩
  rw [hm] at HC hl
  replace hm := Lib.hid hm
  clear hv
  go_enter Tryd.func12, Tryd.ntmps12
  go_wp2_with fail
  refine HC.out.mono ?_
  rintro e w1 ⟨a, c, rfl, q⟩
  have hS := q.graft hB.out
  have HD := Lib.hid (deleteFunc_ev a m c l 22 #[.pointer (some ⟨w.heap.size, 0, none⟩)] (fun e => e.thread != t) w1 _ hS hm.out hl (of1_any t _ _) (enters_of Tryd.func22 (by kernel_rfl) rfl))
  rw [hk.out] at HD
  clear q hS HC hB
  go_wp2_with fail
  refine HD.out.mono ?_
  rintro e w2 ⟨rfl, q⟩
  replace q := Lib.hid q.drop1
  go_wp2_with fail
  go_ret
  exact ⟨_, _, rfl, q.out⟩
end Go.Proofs.YtechagciefhpbaaDoor
