/-
  Equality of events; the kit's Same at equal slices of events and of ints. No condition beside slices that can be read.
-/
import Derived.Test.YtechagciefhpbaaDoorHPend
import Derived.Test.YtechagciefhpbaaDoorHOf
namespace Go.Proofs.YtechagciefhpbaaDoor
set_option linter.unusedSimpArgs false
set_option linter.unusedVariables false
set_option linter.unnecessarySimpa false
open Go.RowKit
def eqB_event (a0 b0 : Int) (a1 b1 : Int) (a2 b2 : Bool) (a3 b3 : Int) (a4 b4 : Int) (a5 b5 : Int) (a6 b6 : Int) (a7 b7 : Int) (a8 b8 : Int) : Bool := ((a0 == b0) && ((a1 == b1) && ((a2 == b2) && ((eqB_act a3 b3 a4 b4 a5 b5 a6 b6 a7 b7 a8 b8) && true))))
theorem held_event : Tryd.prog.stoodInHeld 31 = false := by kernel_rfl
theorem und_event : Tryd.prog.underlying 31 = some (.struct (Tryd.prog.fieldsOf 31)) := by kernel_rfl
theorem names_event : (Tryd.prog.fieldsOf 31).toList.map (fun f => (f.name == "_", f.type, f.offset)) = [(false, 3, 0), (false, 3, 1), (false, 4, 2), (false, 29, 3)] := by kernel_rfl
theorem infos_event : ∃ i, Tryd.prog.info? 31 = some i := Option.isSome_iff_exists.1 (by kernel_rfl)
theorem size_event : Tryd.prog.cellsOf 31 = 9 := by kernel_rfl
theorem equalIn_event (d : Nat) (a0 b0 : Int) (a1 b1 : Int) (a2 b2 : Bool) (a3 b3 : Int) (a4 b4 : Int) (a5 b5 : Int) (a6 b6 : Int) (a7 b7 : Int) (a8 b8 : Int) (w : World) : (Op.equalIn (d + 4) 31 (.agg #[.int .i64 a0, .int .i64 a1, .bool a2, .int .i64 a3, .int .i64 a4, .int .i64 a5, .int .i64 a6, .int .i64 a7, .int .i64 a8]) (.agg #[.int .i64 b0, .int .i64 b1, .bool b2, .int .i64 b3, .int .i64 b4, .int .i64 b5, .int .i64 b6, .int .i64 b7, .int .i64 b8])).run Tryd.prog w = .ok (eqB_event a0 b0 a1 b1 a2 b2 a3 b3 a4 b4 a5 b5 a6 b6 a7 b7 a8 b8) w := by
  rw [run_equalIn_struct (P := Tryd.prog) w (d + 3) 31 _ _ und_event held_event, eqFields_eqD Tryd.prog, names_event]
  unfold eqB_event
  refine eqD_cons (part_one Tryd.underlying3 rfl rfl) (part_one Tryd.underlying3 rfl rfl) (run_equalIn_int w _ _ _ _ _ _ Tryd.underlying3) ?_
  refine eqD_cons (part_one Tryd.underlying3 rfl rfl) (part_one Tryd.underlying3 rfl rfl) (run_equalIn_int w _ _ _ _ _ _ Tryd.underlying3) ?_
  refine eqD_cons (part_one Tryd.underlying4 rfl rfl) (part_one Tryd.underlying4 rfl rfl) (run_equalIn_bool' w _ _ _ _ Tryd.underlying4) ?_
  obtain ⟨i3, hi3⟩ := infos_act
  refine eqD_cons (part_struct und_act hi3 size_act) (part_struct und_act hi3 size_act) (equalIn_act (d + 0) a3 b3 a4 b4 a5 b5 a6 b6 a7 b7 a8 b8 w) ?_
  exact eqD_nil
theorem run_eql_event (a0 b0 : Int) (a1 b1 : Int) (a2 b2 : Bool) (a3 b3 : Int) (a4 b4 : Int) (a5 b5 : Int) (a6 b6 : Int) (a7 b7 : Int) (a8 b8 : Int) (w : World) : (binOp .eql 31 (.agg #[.int .i64 a0, .int .i64 a1, .bool a2, .int .i64 a3, .int .i64 a4, .int .i64 a5, .int .i64 a6, .int .i64 a7, .int .i64 a8]) (.agg #[.int .i64 b0, .int .i64 b1, .bool b2, .int .i64 b3, .int .i64 b4, .int .i64 b5, .int .i64 b6, .int .i64 b7, .int .i64 b8])).run Tryd.prog w = .ok (.bool (eqB_event a0 b0 a1 b1 a2 b2 a3 b3 a4 b4 a5 b5 a6 b6 a7 b7 a8 b8)) w := by
  have h := equalIn_event 9996 a0 b0 a1 b1 a2 b2 a3 b3 a4 b4 a5 b5 a6 b6 a7 b7 a8 b8 w
  simp only [binOp]
  simp [Op.equal, Op.maxDepth, h]
theorem run_neq_event (a0 b0 : Int) (a1 b1 : Int) (a2 b2 : Bool) (a3 b3 : Int) (a4 b4 : Int) (a5 b5 : Int) (a6 b6 : Int) (a7 b7 : Int) (a8 b8 : Int) (w : World) : (binOp .neq 31 (.agg #[.int .i64 a0, .int .i64 a1, .bool a2, .int .i64 a3, .int .i64 a4, .int .i64 a5, .int .i64 a6, .int .i64 a7, .int .i64 a8]) (.agg #[.int .i64 b0, .int .i64 b1, .bool b2, .int .i64 b3, .int .i64 b4, .int .i64 b5, .int .i64 b6, .int .i64 b7, .int .i64 b8])).run Tryd.prog w = .ok (.bool !(eqB_event a0 b0 a1 b1 a2 b2 a3 b3 a4 b4 a5 b5 a6 b6 a7 b7 a8 b8)) w := by
  have h := equalIn_event 9996 a0 b0 a1 b1 a2 b2 a3 b3 a4 b4 a5 b5 a6 b6 a7 b7 a8 b8 w
  simp only [binOp]
  simp [Op.equal, Op.maxDepth, h]
theorem eqB_event_iff (a0 b0 : Int) (a1 b1 : Int) (a2 b2 : Bool) (a3 b3 : Int) (a4 b4 : Int) (a5 b5 : Int) (a6 b6 : Int) (a7 b7 : Int) (a8 b8 : Int) : eqB_event a0 b0 a1 b1 a2 b2 a3 b3 a4 b4 a5 b5 a6 b6 a7 b7 a8 b8 = decide (a0 = b0 ∧ a1 = b1 ∧ a2 = b2 ∧ a3 = b3 ∧ a4 = b4 ∧ a5 = b5 ∧ a6 = b6 ∧ a7 = b7 ∧ a8 = b8) := by
  rw [Bool.eq_iff_iff]
  unfold eqB_event
  simp [eqB_act_iff, and_assoc]
set_option maxHeartbeats 2000000 in
theorem same_ev (u v : Value) (S : List Ev) (w : World) (hu : RL w u 9 S.length (S.flatMap Ev.cells)) (hv : RL w v 9 S.length (S.flatMap Ev.cells)) (hl : S.length ≤ 1000) :
    Calls Tryd.prog 10 #[u, v] w fun e w' => e = .returned (.bool true) ∧ ∃ m, w' = w.drewN m := by
  obtain ⟨n, hn⟩ : ∃ n, Hid (S.length = n) := ⟨_, rfl⟩
  rw [hn.out] at hu hv hl
  have hu2 := hu
  have hv2 := hv
  obtain ⟨_, a, c, rfl, _⟩ := hu
  obtain ⟨_, a', c', rfl, _⟩ := hv
  replace hu2 := Lib.hid hu2
  replace hv2 := Lib.hid hv2
  go_enter Tryd.func10, Tryd.ntmps10
  go_wp2
  go_loopw [5] (fun i w1 => ∃ k : Nat, k ≤ n ∧ i = .int .i64 k ∧ ∃ m, w1 = w.drewN m) (fun i _ => n - (intOf i).toNat)
  case atStart => exact ⟨0, Nat.zero_le _, rfl, 0, rfl⟩
  case round =>
    obtain ⟨k, hk, rfl, m, rfl⟩ := hrel
    by_cases hlt : k < n
    · obtain ⟨s, hs⟩ : ∃ s, S[k]? = some s := ⟨S[k]'(by rw [hn.out]; exact hlt), List.getElem?_eq_getElem _⟩
      obtain ⟨b, off, rfl, _, hz⟩ := cells_ev hu2.out hn.out (by omega)
      obtain ⟨b', off', rfl, _, hz'⟩ := cells_ev hv2.out hn.out (by omega)
      have x0 := hz k s hs 0 (.int .i64 s.call) rfl
      have y0 := hz' k s hs 0 (.int .i64 s.call) rfl
      have x1 := hz k s hs 1 (.int .i64 s.thread) rfl
      have y1 := hz' k s hs 1 (.int .i64 s.thread) rfl
      have x2 := hz k s hs 2 (.bool s.invoke) rfl
      have y2 := hz' k s hs 2 (.bool s.invoke) rfl
      have x3 := hz k s hs 3 (.int .i64 s.act.kind) rfl
      have y3 := hz' k s hs 3 (.int .i64 s.act.kind) rfl
      have x4 := hz k s hs 4 (.int .i64 s.act.txn) rfl
      have y4 := hz' k s hs 4 (.int .i64 s.act.txn) rfl
      have x5 := hz k s hs 5 (.int .i64 s.act.t) rfl
      have y5 := hz' k s hs 5 (.int .i64 s.act.t) rfl
      have x6 := hz k s hs 6 (.int .i64 s.act.r) rfl
      have y6 := hz' k s hs 6 (.int .i64 s.act.r) rfl
      have x7 := hz k s hs 7 (.int .i64 s.act.mode) rfl
      have y7 := hz' k s hs 7 (.int .i64 s.act.mode) rfl
      have x8 := hz k s hs 8 (.int .i64 s.act.code) rfl
      have y8 := hz' k s hs 8 (.int .i64 s.act.code) rfl
      simp only [Nat.add_zero, ← Nat.add_assoc] at x0 y0 x1 y1 x2 y2 x3 y3 x4 y4 x5 y5 x6 y6 x7 y7 x8 y8
      clear hz hz' hs
      have i1 : (0 : Int) ≤ (k : Int) := by omega
      have i2 : (k : Int) < (n : Int) := by omega
      have hq := fun W => run_neq_event s.call s.call s.thread s.thread s.invoke s.invoke s.act.kind s.act.kind s.act.txn s.act.txn s.act.t s.act.t s.act.r s.act.r s.act.mode s.act.mode s.act.code s.act.code W
      have he : eqB_event s.call s.call s.thread s.thread s.invoke s.invoke s.act.kind s.act.kind s.act.txn s.act.txn s.act.t s.act.t s.act.r s.act.r s.act.mode s.act.mode s.act.code s.act.code = true := by rw [eqB_event_iff]; simp
      simp only [he, Bool.not_true] at hq
      clear he
      go_wp2_with fail
      go_quiet (fail)
      go_wp2_with fail
      go_roundw
      case rel => exact ⟨k+1, by omega, by go_num, _, rfl⟩
      case measure => simp [intOf]; omega
    · go_wp2
      go_ret
      exact ⟨rfl, _, rfl⟩
theorem same_int (u v : Value) (S : List Int) (w : World) (hu : RL w u 1 S.length (S.flatMap icell)) (hv : RL w v 1 S.length (S.flatMap icell)) (hl : S.length ≤ 1000) :
    Calls Tryd.prog 8 #[u, v] w fun e w' => e = .returned (.bool true) ∧ ∃ m, w' = w.drewN m := by
  obtain ⟨n, hn⟩ : ∃ n, Hid (S.length = n) := ⟨_, rfl⟩
  rw [hn.out] at hu hv hl
  have hu2 := hu
  have hv2 := hv
  obtain ⟨_, a, c, rfl, _⟩ := hu
  obtain ⟨_, a', c', rfl, _⟩ := hv
  replace hu2 := Lib.hid hu2
  replace hv2 := Lib.hid hv2
  go_enter Tryd.func8, Tryd.ntmps8
  go_wp2
  go_loopw [5] (fun i w1 => ∃ k : Nat, k ≤ n ∧ i = .int .i64 k ∧ ∃ m, w1 = w.drewN m) (fun i _ => n - (intOf i).toNat)
  case atStart => exact ⟨0, Nat.zero_le _, rfl, 0, rfl⟩
  case round =>
    obtain ⟨k, hk, rfl, m, rfl⟩ := hrel
    by_cases hlt : k < n
    · obtain ⟨s, hs⟩ : ∃ s, S[k]? = some s := ⟨S[k]'(by rw [hn.out]; exact hlt), List.getElem?_eq_getElem _⟩
      obtain ⟨b, off, rfl, _, hz⟩ := cells_int hu2.out hn.out (by omega)
      obtain ⟨b', off', rfl, _, hz'⟩ := cells_int hv2.out hn.out (by omega)
      have x0 := hz k s hs 0 (.int .i64 s) rfl
      have y0 := hz' k s hs 0 (.int .i64 s) rfl
      simp only [Nat.add_zero, Nat.mul_one] at x0 y0
      clear hz hz' hs
      have i1 : (0 : Int) ≤ (k : Int) := by omega
      have i2 : (k : Int) < (n : Int) := by omega

      go_wp2_with fail
      go_quiet (fail)
      go_wp2_with fail
      go_roundw
      case rel => exact ⟨k+1, by omega, by go_num, _, rfl⟩
      case measure => simp [intOf]; omega
    · go_wp2
      go_ret
      exact ⟨rfl, _, rfl⟩
end Go.Proofs.YtechagciefhpbaaDoor
