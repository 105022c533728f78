/-
  The walker of histories: shape, begin. No condition beside memory that can be read.
-/
import Derived.Test.YtechagciefhpbaaDoorHEv
import Derived.Test.YtechagciefhpbaaDoorMap
import Derived.Test.YtechagciefhpbaaDoorHx
import Derived.Deep.DeepCutAuto
namespace Go.Proofs.YtechagciefhpbaaDoor
set_option linter.unusedSimpArgs false
set_option linter.unusedVariables false
set_option linter.unnecessarySimpa false
open Go.RowKit
/-- What is wrong with an event by itself. -/
def shapeB (e : Ev) : Bool :=
  decide (0 ≤ e.call) && (decide (0 ≤ e.thread) && (if e.invoke then decide (1 ≤ e.act.kind) && (decide (e.act.kind ≤ 4) && decide (e.act.code = 0))
    else decide (1 ≤ e.act.code) && (decide (e.act.code ≤ 6) && (decide (e.act.kind = 0) && (decide (e.act.txn = 0) && (decide (e.act.t = 0) && (decide (e.act.r = 0) && decide (e.act.mode = 0))))))))
def shapeN (e : Ev) : Int := if shapeB e then 0 else 2
def evC (x : Int × Bool) : Value := .agg #[.int .i64 x.1, .bool x.2]
def evU (_ : Unit) : Value := .agg #[]
theorem lawI : KeyEnc Tryd.prog 3 ekI := keyEnc_int Tryd.underlying3
theorem zeroC (w : World) : (zeroValue 90).run Tryd.prog w = .ok (evC (0, false)) w := by kernel_rfl
theorem zeroU (w : World) : (zeroValue 55).run Tryd.prog w = .ok (evU ()) w := by kernel_rfl
theorem info_span : (Tryd.prog.info? 45).map (fun i => (i.zero, i.size, i.bytes)) = some (some (.agg #[.int .i64 0, .int .i64 0, .int .i64 0, .int .i64 0, .int .i64 0, .int .i64 0, .int .i64 0, .int .i64 0, .int .i64 0, .int .i64 0]), 10, 80) := by kernel_rfl
def evBox (w : World) (call thread : Int) (inv : Bool) (kind txn t r mode code : Int) : World := w.alloc (.cells #[.int .i64 call, .int .i64 thread, .bool inv, .int .i64 kind, .int .i64 txn, .int .i64 t, .int .i64 r, .int .i64 mode, .int .i64 code] 31)
set_option maxHeartbeats 2000000 in
theorem shape_any (e : Ev) (w : World) : Calls Tryd.prog 30 #[e.val] w fun r w' => r = .returned (.int .i64 (shapeN e)) ∧ Below w.heap.size w w' := by
  obtain ⟨call, thread, inv, ⟨kind, txn, t, r, mode, code⟩⟩ := e
  have hq := run_eql_act kind 0 txn 0 t 0 r 0 mode 0 code code
  have hq2 : eqB_act kind 0 txn 0 t 0 r 0 mode 0 code code = (decide (kind = 0) && (decide (txn = 0) && (decide (t = 0) && (decide (r = 0) && decide (mode = 0))))) := by
    rw [eqB_act_iff, Bool.eq_iff_iff]
    simp
  rw [hq2] at hq
  have hN : shapeN ⟨call, thread, inv, ⟨kind, txn, t, r, mode, code⟩⟩ = if decide (0 ≤ call) && (decide (0 ≤ thread) && (if inv then decide (1 ≤ kind) && (decide (kind ≤ 4) && decide (code = 0))
    else decide (1 ≤ code) && (decide (code ≤ 6) && (decide (kind = 0) && (decide (txn = 0) && (decide (t = 0) && (decide (r = 0) && decide (mode = 0)))))))) then 0 else 2 := rfl
  unfold Ev.val
  simp only
  generalize (decide (kind = 0) && (decide (txn = 0) && (decide (t = 0) && (decide (r = 0) && decide (mode = 0))))) = bare at *
  clear hq2
  have hq3 := Lib.hid hq
  replace hN := Lib.hid hN
  have HB := Lib.hid ((Sep.start w).alloc #[.int .i64 call, .int .i64 thread, .bool inv, .int .i64 kind, .int .i64 txn, .int .i64 t, .int .i64 r, .int .i64 mode, .int .i64 code] 31)
  go_enter Tryd.func30, Tryd.ntmps30
  go_upto_region 2 with fail
  go_cut [4] (fun s4 wx => s4 = .bool (decide (1 ≤ kind) && (decide (kind ≤ 4) && decide (code = 0))) ∧ Hid (Sep wx [blk w.heap.size 31 #[.int .i64 call, .int .i64 thread, .bool inv, .int .i64 kind, .int .i64 txn, .int .i64 t, .int .i64 r, .int .i64 mode, .int .i64 code], old w]))
  case first =>
    go_wp2_with fail
    all_goals
      go_meet
      exact ⟨by congr 1; symm; first | (simp [*]; done) | (simp [*]; omega) | (simp [*]; rfl), HB⟩
  case rest =>
    clear HB
    obtain ⟨rfl, HB⟩ := hcut
    obtain ⟨_, d0, d1, d2, d3, d4, d5, d6, d7, d8, _⟩ := HB.out.b9
    go_upto_region 3 with fail
    go_cut [5] (fun s5 wx => s5 = .bool (decide (1 ≤ code) && (decide (code ≤ 6) && bare)) ∧ Hid (Sep wx [blk w.heap.size 31 #[.int .i64 call, .int .i64 thread, .bool inv, .int .i64 kind, .int .i64 txn, .int .i64 t, .int .i64 r, .int .i64 mode, .int .i64 code], old w]))
    case first =>
      go_wp2_with fail
      all_goals
        go_meet
        exact ⟨by congr 1; symm; first | (simp [*]; done) | (simp [*]; omega) | (simp [*]; rfl), HB⟩
    case rest =>
      clear HB d0 d1 d2 d3 d4 d5 d6 d7 d8
      obtain ⟨rfl, HB⟩ := hcut
      obtain ⟨_, d0, d1, d2, d3, d4, d5, d6, d7, d8, _⟩ := HB.out.b9
      obtain ⟨bg, hbg⟩ : ∃ bg, (decide (1 ≤ kind) && (decide (kind ≤ 4) && decide (code = 0))) = bg := ⟨_, rfl⟩
      obtain ⟨en, hen⟩ : ∃ en, (decide (1 ≤ code) && (decide (code ≤ 6) && bare)) = en := ⟨_, rfl⟩
      have hN2 := hN.out
      rw [hbg, hen] at hN2
      rw [hbg, hen]
      replace hN2 := Lib.hid hN2
      clear hbg hen hN
      cases inv
      case' false => cases en
      case' true => cases bg
      all_goals
        go_wp2_with fail
        all_goals
          go_ret
          refine ⟨?_, HB.out.tail.gold⟩
          rw [hN2.out]
          congr 2
          clear hq hq3 hN2
          first | (simp [*]; done) | (simp_all; done) | (simp_all; omega)
end Go.Proofs.YtechagciefhpbaaDoor
