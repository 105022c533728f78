/-
  slices.AppendSeq and slices.Collect of a map's keys (names). No condition beside a map that can be read.
-/
import Derived.Test.YtbpeajcfabjphaaKy
namespace Go.Proofs.Ytbpeajcfabjphaa
open Go.RowKit Go.Shelf
attribute [local go_sem] Oper.semAt_some
def nmC (a : Int × Int) : List Value := [.int .i64 a.1, .int .i64 a.2]
theorem nmC_len (a : Int × Int) : (nmC a).length = 2 := rfl
theorem info_nm : (Try.prog.info? 24).map (fun i => (i.zero, i.size, i.bytes)) = some (some (.agg #[.int .i64 0, .int .i64 0]), 2, 16) := by kernel_rfl
theorem cells_new (w : World) (cs : Array Value) (t : TypeId) : ∀ j u, cs.toList[j]? = some u → (w.alloc (.cells cs t)).cell? ((⟨w.heap.size, 0, none⟩ : Addr).add j) = some u := by
  intro j u hu
  have h := ((Sep.start w).alloc cs t).gblk.cell j
  rw [Addr.add_lit, Nat.zero_add, h, ← hu]
  simp
abbrev keyfn : Nat := 47
set_option maxRecDepth 100000 in
set_option maxHeartbeats 4000000 in
theorem appendSeq_in {V : Type} (ev : V → Value) (n : Nat) (hn : 2 ≤ n) (Bm b : Nat) (E : List ((Int × Int) × V)) (w : World) (hB : Bm < w.heap.size) (hm : w.cell? ⟨Bm, 0, none⟩ = some (.map (some b))) (hown : MapAt w b (E.map fun p => (ekN p.1, ev p.2))) (hE : E.length ≤ 1000) :
    CallsIn Fence.wide n Try.prog 54 #[.slice none 0 0, .func (.func keyfn) #[] #[.pointer (some ⟨Bm, 0, none⟩)]] w fun e W' => ∃ (v : Value) (ss : List (Int × Int)), e = .returned v ∧ ss.Perm (E.map (·.1)) ∧ W'.ownsRow w.heap.size 24 2 v ss.length (ss.flatMap nmC) ∧ Below w.heap.size w W' := by
  obtain ⟨i0, hi, hz0, hz1, hz2⟩ := info_parts info_nm
  have h1 : 1 ≤ n := by omega
  refine callsIn_of_wp_marks Try.func54 rfl trivial ?_ rfl
  simp only [Try.ntmps54, List.size_toArray, List.length_cons, List.length_nil, Nat.reduceAdd, Nat.reduceSub, Array.replicate_succ, Array.replicate_zero, List.push_toArray, List.append_toArray, List.nil_append, List.cons_append]
  gi_wp2
  have bO := Boxed.new w 64 (.slice none 0 0)
  have hB0 : Below w.heap.size w (w.alloc (.cells #[.slice none 0 0] 64)) := (Below.refl _ _).alloc (Nat.le_refl _) _
  have hST := keys_stops ev (n - 1) (by omega) Bm b E w w hB hm hown (Below.refl _ _)
  obtain ⟨W1, hW1⟩ : ∃ W1, W1 = w.alloc (.cells #[.slice none 0 0] 64) := ⟨_, rfl⟩
  have hz1' : W1.heap.size = w.heap.size + 1 := by rw [hW1, World.size_alloc]
  rw [← hW1] at bO hB0 ⊢
  replace hW1 := Lib.hid hW1
  replace hz1' := Lib.hid hz1'
  have hOwn : OwnFrom W1.heap.size (fun (pre : List (Int × Int)) W => (∃ v, Boxed W w.heap.size 64 v ∧ W.ownsRow w.heap.size 24 2 v pre.length (pre.flatMap nmC) ∧ (v = .slice none 0 0 ↔ pre = [])) ∧ Below w.heap.size w W) :=
    OwnFrom.and (Own.from (holdsRow_own w.heap.size w.heap.size 64 24 2 (fun pre => pre.length) (fun pre => pre.flatMap nmC) (fun pre v => v = .slice none 0 0 ↔ pre = [])) _) (ownFrom_below (Nat.le_refl _) (by have := hz1'.out; omega))
  refine wpIn_rangeFunc_ownH rfl h1 (gf := keyfn) (lb := #[.pointer (some ⟨Bm, 0, none⟩)]) rfl trivial (enters_of Try.func47 (by kernel_rfl) rfl)
    hST walksK_t walksK_b hB0 (fun _ => rfl)
    (fun pre W => (∃ v, Boxed W w.heap.size 64 v ∧ W.ownsRow w.heap.size 24 2 v pre.length (pre.flatMap nmC) ∧ (v = .slice none 0 0 ↔ pre = [])) ∧ Below w.heap.size w W)
    (fun _ _ _ => False)
    hOwn
    (fun _ _ _ _ _ hs _ _ => hs)
    ⟨⟨_, bO, World.ownsRow_nil _ _ _ _, by simp⟩, hB0⟩
    (fun x a' W => ∃ Bx, W1.heap.size ≤ Bx ∧ Blk W Bx 24 #[.int .i64 x.1, .int .i64 x.2] ∧ a' = { tmps := #[.slice none 0 0, .func (.func keyfn) #[] #[.pointer (some ⟨Bm, 0, none⟩)], .pointer (some ⟨w.heap.size, 0, none⟩), undef, .slice none 0 0, .pointer (some ⟨Bx, 0, none⟩), .func (.func keyfn) #[] #[.pointer (some ⟨Bm, 0, none⟩)], ekN x, undef, undef, undef, undef, undef], defers := [] })
    ?hAx ?assign ?body ?done ?stop
  case hAx =>
    rintro x a' _ W W' row ⟨Bx, hb, hB, e⟩ hg hr
    refine ⟨Bx, hb, (hg.block Bx hB.lt fun e' => ?_).trans hB, e⟩
    obtain ⟨_, o, ho, hc⟩ := hr Bx e'.symm
    rw [show W.heap[Bx]? = _ from hB] at ho
    cases ho
    cases hc
  case assign =>
    rintro l pre ⟨t, r⟩ W K hi hK
    replace hOwn := Lib.hid hOwn
    have hsW : W1.heap.size ≤ W.heap.size := by
      obtain ⟨⟨v, hv, _⟩, _⟩ := hi
      have := hv.lt
      have := hz1'.out
      omega
    replace hi := Lib.hid hi
    unfold ekN
    gi_wp2
    exact hK _ _ ((KeepsOthers.alloc _ _).from _) (KeepsWalks.alloc _ _) (hOwn.out.alloc _ hi.out) ⟨W.heap.size, hsW, Blk.new _ _ _, rfl⟩
  case body =>
    rintro l pre ⟨t, r⟩ a' W _ _ ⟨⟨v, hv, hrow, hnil⟩, hB⟩ ⟨Bx, hBx, bX, rfl⟩ hlt
    obtain ⟨va, vc, rfl⟩ := own_slice hrow
    have hc := hv.cell
    have x0 := bX.cell 0
    have x1 := bX.cell 1
    simp at x0 x1
    have hpl : pre.length ≤ 1000 := by omega
    have hml : pre.length + 1 ≤ maxLen := by simp only [maxLen]; omega
    unfold ekN
    clear hOwn bX
    gi_wp2_with (gi_at_builtin; refine wpListIn_append_own _ rfl _ _ 64 rfl w.heap.size 24 i0 (.agg #[.int .i64 0, .int .i64 0]) 2 16 Try.underlying64 hi hz0 hz1 hz2 rfl (by decide) _ _ _ rfl (hrow.alloc _) ⟨W.heap.size, 0, none⟩ 1 1 [.int .i64 t, .int .i64 r] rfl rfl (cells_new W #[.int .i64 t, .int .i64 r] _) (by simp [Value.oneCell']) hml (by omega) (by have := hB.size; simp; omega) ?_; intro v' w1 hown' hgrow _; obtain ⟨g', cap', rfl⟩ := ownsRow_succ hown'; obtain ⟨hv1, hv2, hr2, hk2, hb2⟩ := hv.appended (by decide) hrow hB.size (Nat.le_refl _) hown' hgrow; have hc1 := hv1.cell; have hf1 := hv1.frozen)
    exact ⟨hk2.from _, hk2.walks, ⟨_, hv2, by simpa [nmC] using hr2, by simp⟩, hB.trans hb2⟩
  case done =>
    rintro D ys W hD hys ⟨⟨v, hv, hrow, hnil⟩, hB⟩ hK
    obtain ⟨va, vc, rfl⟩ := own_slice hrow
    have hc := hv.cell
    have hown2 := Lib.hid hrow
    clear hOwn
    gi_wp2
    refine ⟨by simp, .inl ⟨_, _, rfl, run_takeDeferred hK, ?_⟩⟩
    refine ⟨_, results_tmp rfl _ _ _, .slice va ys.length vc, ys, rfl, hys, ownsRow_putObj hrow (.deferred none) hK rfl, hB.trans (belowK_b (w := W1) (by have := hz1'.out; omega) _ D _ _ (by omega) hK rfl rfl)⟩
  case stop =>
    rintro D c pre W _ _ h _
    exact h.elim
set_option maxHeartbeats 1000000 in
theorem collect_in {V : Type} (ev : V → Value) (n : Nat) (hn : 3 ≤ n) (Bm b : Nat) (E : List ((Int × Int) × V)) (w : World) (hB : Bm < w.heap.size) (hm : w.cell? ⟨Bm, 0, none⟩ = some (.map (some b))) (hown : MapAt w b (E.map fun p => (ekN p.1, ev p.2))) (hE : E.length ≤ 1000) :
    CallsIn Fence.wide n Try.prog 45 #[.func (.func keyfn) #[] #[.pointer (some ⟨Bm, 0, none⟩)]] w fun e W' => ∃ (v : Value) (ss : List (Int × Int)), e = .returned v ∧ ss.Perm (E.map (·.1)) ∧ W'.ownsRow w.heap.size 24 2 v ss.length (ss.flatMap nmC) ∧ Below w.heap.size w W' := by
  have HA := Lib.hid (appendSeq_in ev (n - 1) (by omega) Bm b E w hB hm hown hE)
  clear hB hm hown
  refine callsIn_of_wp Try.func45 rfl trivial ?_ rfl
  simp only [Try.ntmps45, List.size_toArray, List.length_cons, List.length_nil, Nat.reduceAdd, Nat.reduceSub, Array.replicate_succ, Array.replicate_zero, List.push_toArray, List.append_toArray, List.nil_append, List.cons_append]
  gi_wp2
  refine ⟨trivial, fun _ => by omega, ?_⟩
  refine HA.out.mono ?_
  rintro e w' ⟨v, ss, rfl, hp, hrow, hb⟩
  gi_wp2
  go_ret
  exact ⟨v, ss, rfl, hp, hrow, hb⟩
end Go.Proofs.Ytbpeajcfabjphaa
