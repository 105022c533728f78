/-
  maps.Keys over a map keyed by names: what its iterator gives. No condition beside a map that can be read.
-/
import Derived.RangeFuncBox
import Derived.RangeFuncLeaves
import Derived.RangeFuncNested
import Derived.RangeFuncBound
import Derived.RangeFuncCalls
import Derived.Shelf.Abstract
import Derived.Shelf.RegionOpen
import Derived.WalkKit
import Derived.OwnWalkIn
import Derived.TacticsInMore
import Derived.LoopNIn
import Derived.LoopIn
import Derived.Sort.MapsRangeIn
import Derived.Lib.Hide
import Derived.Test.YtbpeajcfabjphaaMapN
namespace Go.Proofs.Ytbpeajcfabjphaa
open Go.RowKit Go.Shelf Go.MapKept
open Go.ChangeMaps (setBlock)
attribute [local go_sem] Oper.semAt_some
/-- A range over a map under way: block b is the map l, block r the iterator; ss: the keys that have come; cnt: how many are left. -/
def Rng (w : World) (b r : Nat) (l : List (Value × Value)) (ss : List Value) (cnt : Nat) : Prop :=
  ∃ es clock since seen c0, w.heap[b]? = some (.map es clock) ∧ Stamped es clock ∧ es.toList.map (fun e => (e.key, e.val)) = l ∧
    w.heap[r]? = some (.mapIter (some b) since seen c0) ∧ (∀ x ∈ es.toList, x.born < since) ∧ since ≤ c0 ∧ since ≤ clock ∧ (leftOf es seen).size = cnt ∧
    ss.Nodup ∧ (∀ x ∈ es.toList, x.key ∈ ss ↔ seen.contains x.born = true) ∧ (∀ k ∈ ss, ∃ x ∈ es.toList, x.key = k) ∧ ss.length + cnt ≤ l.length
def rngLeft (w : World) (b r : Nat) : Nat := w.rangeLeft b r
section
variable {P : Program} {w w' : World} {b r : Nat} {l : List (Value × Value)} {ss : List Value} {cnt : Nat}
theorem Rng.left_eq (h : Rng w b r l ss cnt) : rngLeft w b r = cnt := by
  obtain ⟨es, clock, since, seen, c0, hb, _, _, hr, _, _, _, hc, _⟩ := h
  simp only [rngLeft, World.rangeLeft, hb, hr]
  exact hc
theorem Rng.iter_walk (h : Rng w b r l ss cnt) : ∃ o : Obj, w.heap[r]? = some o ∧ o.isWalk = true := by
  obtain ⟨es, clock, since, seen, c0, _, _, _, hr, _⟩ := h
  exact ⟨_, hr, rfl⟩
theorem Rng.of_walks (h : Rng w b r l ss cnt) (hk : KeepsWalks w w') : Rng w' b r l ss cnt := by
  obtain ⟨es, clock, since, seen, c0, hb, hs, hl, hr, rest⟩ := h
  exact ⟨es, clock, since, seen, c0, hk.same b _ hb rfl, hs, hl, hk.same r _ hr rfl, rest⟩
theorem Rng.size_le (h : Rng w b r l ss cnt) : ss.length + cnt ≤ l.length := by
  obtain ⟨es, clock, since, seen, c0, hb, hs, hl, hr, _, _, _, _, _, _, _, h5⟩ := h
  exact h5
theorem Rng.start {t k e : TypeId} (ht : P.underlying t = some (.map k e)) (h : MapAt w b l) :
    ∃ w', (Instr.range t (.map (some b))).run P w = .ok (.pointer (some ⟨w.heap.size, 0, none⟩)) w' ∧ Rng w' b w.heap.size l [] l.length ∧ w.grownBy w' none ∧ w'.heap.size = w.heap.size + 1 := by
  obtain ⟨es, clock, hb, hs, hl⟩ := h
  have hlt := (Array.getElem?_eq_some_iff.1 hb).1
  refine ⟨_, run_range_map w t k e b es clock ht hb, ⟨es, clock, clock, #[], clock, ((MapKept.heap_alloc w _).2 b hlt).trans hb, hs, hl, (MapKept.heap_alloc w _).1, hs.1, Nat.le_refl _, Nat.le_refl _, ?_, List.nodup_nil, fun x _ => by simp, by simp, by simp⟩, World.grownBy_alloc w _ none, by simp⟩
  rw [← hl]
  simp [leftOf]
theorem Rng.next (h : Rng w b r l ss cnt) (ty : TypeId) :
    (cnt = 0 ∧ ss.Perm (l.map (·.1)) ∧ (Instr.next (.pointer (some ⟨r, 0, none⟩)) false ty).run P w = .ok (.tuple #[.bool false]) w) ∨
    ∃ key v w' cnt', (key, v) ∈ l ∧ (Instr.next (.pointer (some ⟨r, 0, none⟩)) false ty).run P w = .ok (.tuple #[.bool true, key, v]) w' ∧ Rng w' b r l (ss ++ [key]) cnt' ∧ cnt' < cnt ∧
      w.grownBy w' (some r) ∧ w'.heap.size = w.heap.size ∧ (Instr.entry (.pointer (some ⟨r, 0, none⟩))).run P w' = .ok (.tuple #[key, v]) w' := by
  obtain ⟨es, clock, since, seen, c0, hb, hs, hl, hr, hold, hsc, hsk, rfl, hn, h1, h2, h3⟩ := h
  have hne : r ≠ b := by
    intro e
    rw [e, hb] at hr
    cases hr
  rcases run_next_at (P := P) w ty r b since c0 seen es clock hr hb hold hsc with ⟨h0, hrun⟩ | ⟨e, he, w1, hal, hrun⟩
  · refine .inl ⟨h0, ?_, hrun⟩
    have hk : l.map (·.1) = es.toList.map (·.key) := by rw [← hl, List.map_map]; rfl
    rw [hk]
    refine (List.perm_ext_iff_of_nodup hn hs.2.2).2 fun k => ⟨fun hk => ?_, fun hk => ?_⟩
    · obtain ⟨x, hx, rfl⟩ := h2 k hk
      exact List.mem_map.2 ⟨x, hx, rfl⟩
    · obtain ⟨x, hx, rfl⟩ := List.mem_map.1 hk
      exact (h1 x hx).2 (all_seen es seen h0 x hx)
  · obtain ⟨hem, hes⟩ := mem_left he
    have hr1 : w1.heap[r]? = some (.mapIter (some b) since seen c0) := by rcases hal with rfl | rfl <;> exact hr
    have hb1 : w1.heap[b]? = some (.map es clock) := by rcases hal with rfl | rfl <;> exact hb
    have hset := MapKept.heap_set (o' := .mapIter (some b) since (seen.push e.born) clock) hr1
    have hb' : (setBlock w1 r (.mapIter (some b) since (seen.push e.born) clock)).heap[b]? = some (.map es clock) := (hset.2 b (fun e1 => hne e1.symm)).trans hb1
    have hnot : e.key ∉ ss := fun hk => by rw [(h1 e hem).1 hk] at hes; cases hes
    have hsh := left_shrinks es seen e he
    refine .inr ⟨e.key, e.val, _, _, by rw [← hl]; exact List.mem_map.2 ⟨e, hem, rfl⟩, hrun,
      ⟨es, clock, since, seen.push e.born, clock, hb', hs, hl, hset.1, hold, hsk, hsk, rfl, ?_, fun x hx => ?_, fun k hk => ?_, ?_⟩, hsh, ?_, ?_,
      run_entry_at _ r b since seen es clock e hset.1 hb' hem hs.2.1⟩
    · rw [List.nodup_append]
      refine ⟨hn, by simp, fun x hx y hy => ?_⟩
      simp at hy
      subst hy
      rintro rfl
      exact hnot hx
    · rw [List.mem_append, h1 x hx, contains_push, Bool.or_eq_true, List.mem_singleton]
      have : x.key = e.key ↔ (x.born == e.born) = true := by
        rw [beq_iff_eq]
        refine ⟨fun hk => ?_, fun hb => ?_⟩
        · exact congrArg MapEntry.born (entry_eq_of_key (((stamped_iff es clock).1 hs).2.2) hx hem hk)
        · rw [born_inj hs.2.1 hx hem hb]
      rw [this]
    · rcases List.mem_append.1 hk with hk | hk
      · exact h2 k hk
      · simp at hk
        exact ⟨e, hem, hk.symm⟩
    · rw [List.length_append, List.length_singleton]
      omega
    · rcases hal with rfl | rfl <;> exact ⟨rfl, rfl, rfl, by simp [setBlock], fun i _ hi => hset.2 i (fun e1 => hi (by rw [e1]))⟩
    · rcases hal with rfl | rfl <;> simp [setBlock]
variable {F : Fence} {n : Nat} {ops : Array Oper} {rest : List Oper} {o : Oper} {a : Act} {Q : Exit → Act → World → Prop}
theorem wpListIn_range_map (hg : o.guard = none) (m : Operand) (t : TypeId) (hop : o.op = Op.range t m) (k e : TypeId) (ht : P.underlying t = some (.map k e)) (b : Nat) (l : List (Value × Value))
    (hm : a.eval m = .map (some b)) (h : MapAt w b l)
    (hK : ∀ w', Rng w' b w.heap.size l [] l.length → w.grownBy w' none → w'.heap.size = w.heap.size + 1 → wpListIn F n P ops Q rest (a.put o.dst (.pointer (some ⟨w.heap.size, 0, none⟩))) w') :
    wpListIn F n P ops Q (o :: rest) a w := by
  refine wpListIn_plain hg fun K' hK' => ?_
  obtain ⟨w', hrun, r1, r2, r3⟩ := Rng.start (P := P) ht h
  unfold Oper.wpIn
  refine ⟨?_, ?_⟩
  · simp [Oper.about, hop]
  · rw [Oper.semAt_plain F _ _ (by rw [hop]; intro c hc'; cases hc')]
    simp [execOp, hop, hm, hrun, Result.andThen]
    exact hK' _ _ (hK w' r1 r2 r3)
theorem wpListIn_next_map (hg : o.guard = none) (it : Operand) (hop : o.op = Op.next it false) (b r : Nat) (l : List (Value × Value)) (ss : List Value) (cnt : Nat)
    (hit : a.eval it = .pointer (some ⟨r, 0, none⟩)) (h : Rng w b r l ss cnt)
    (hDone : cnt = 0 → Hid (ss.Perm (l.map (·.1))) → wpListIn F n P ops Q rest (a.put o.dst (.tuple #[.bool false])) w)
    (hMore : ∀ (key v : Value) (w' : World) (cnt' : Nat), Hid ((key, v) ∈ l) → Rng w' b r l (ss ++ [key]) cnt' → cnt' < cnt → w.grownBy w' (some r) → w'.heap.size = w.heap.size →
      (Instr.entry (.pointer (some ⟨r, 0, none⟩))).run P w' = .ok (.tuple #[key, v]) w' → wpListIn F n P ops Q rest (a.put o.dst (.tuple #[.bool true, key, v])) w') :
    wpListIn F n P ops Q (o :: rest) a w := by
  refine wpListIn_plain hg fun K' hK' => ?_
  unfold Oper.wpIn
  refine ⟨by simp [Oper.about, hop], ?_⟩
  rw [Oper.semAt_plain F _ _ (by rw [hop]; intro c hc'; cases hc')]
  rcases h.next (P := P) o.type with ⟨h0, hl, hrun⟩ | ⟨key, v, w', cnt', hkv, hrun, hrg, hlt, hgr, hsz, hen⟩
  · simp [execOp, hop, hit, hrun, Result.andThen]
    exact hK' _ _ (hDone h0 (Lib.hid hl))
  · simp [execOp, hop, hit, hrun, Result.andThen]
    exact hK' _ _ (hMore key v w' cnt' (Lib.hid hkv) hrg hlt hgr hsz hen)
end
def dkN : Value → Int × Int
  | .agg #[.int _ t, .int _ r] => (t, r)
  | _ => (0, 0)
theorem dk_ek (a : Int × Int) : dkN (ekN a) = a := rfl
theorem perm_ek {ss : List (Int × Int)} {V : Type} {ev : V → Value} {E : List ((Int × Int) × V)} (h : (ss.map ekN).Perm ((E.map fun p => (ekN p.1, ev p.2)).map (·.1))) : ss.Perm (E.map (·.1)) := by
  have h2 := h.map dkN
  rw [List.map_map, List.map_map, List.map_map] at h2
  have e1 : ss.map (dkN ∘ ekN) = ss := by
    have : (dkN ∘ ekN) = id := funext fun a => dk_ek a
    rw [this, List.map_id]
  rw [e1] at h2
  refine h2.trans (List.Perm.of_eq ?_)
  exact List.map_congr_left fun p _ => rfl
set_option maxRecDepth 100000 in
set_option maxHeartbeats 2000000 in
theorem keys1_in {V : Type} (ev : V → Value) (n : Nat) (hn : 1 ≤ n) (l Bm b : Nat) (E : List ((Int × Int) × V)) (J Jx : List (Int × Int) → World → Prop)
    (hY : ∀ pre x W, J pre W → pre.length < E.length → YieldAt Fence.wide (n - 1) Try.prog l #[ekN x] W fun e W' =>
      (e = .returned (.bool true) ∧ J (pre ++ [x]) W' ∧ KeepsWalks W W') ∨ (e = .returned (.bool false) ∧ Jx (pre ++ [x]) W'))
    (W : World) (hJ : AbidesFrom W.heap.size J) (hm : W.cell? ⟨Bm, 0, none⟩ = some (.map (some b))) (hown : MapAt W b (E.map fun p => (ekN p.1, ev p.2))) (h0 : J [] W) :
    CallsIn Fence.wide n Try.prog 47 #[.func (.yield l) #[] #[], .pointer (some ⟨Bm, 0, none⟩)] W fun e W' => (∃ v, e = .returned v) ∧
      ((∃ ss : List (Int × Int), ss.Perm (E.map (·.1)) ∧ J ss W') ∨ (∃ pre, True ∧ Jx pre W')) := by
  refine callsIn_of_wp Try.func47 rfl trivial ?_ rfl
  simp only [Try.ntmps47, List.size_toArray, List.length_cons, List.length_nil, Nat.reduceAdd, Nat.reduceSub, Array.replicate_succ, Array.replicate_zero, List.push_toArray, List.append_toArray, List.nil_append, List.cons_append]
  gi_wp2_with (first
    | (gi_at_range; refine wpListIn_range_map rfl _ 61 rfl _ _ Try.underlying61 b _ rfl hown ?_; intro w0 hrg0 hg0 hs0)
    | gi_in)
  go_frame
  gi_loopw [3] (fun _ wr => ∃ (cnt : Nat) (ss : List (Int × Int)), Rng wr b W.heap.size (E.map fun p => (ekN p.1, ev p.2)) (ss.map ekN) cnt ∧ J ss wr)
    (fun _ wr => rngLeft wr b W.heap.size)
  case atStart =>
    exact ⟨_, [], hrg0, hJ [] W w0 none h0 hg0 (fun r e => by cases e)⟩
  case round =>
    obtain ⟨cnt, ss, hrg, hJs⟩ := hrel
    gi_wp2_with (first
      | (gi_at_next; refine wpListIn_next_map rfl _ rfl b W.heap.size _ _ _ rfl hrg ?_ ?_)
      | gi_in)
    · intro hc0 hl0
      gi_wp2
      go_end0
      exact ⟨⟨_, rfl⟩, .inl ⟨ss, perm_ek (ev := ev) (by rw [List.map_map]; exact hl0.out), hJs⟩⟩
    · intro key v w2 cnt2 hkv hrg2 hlt hg2 hs2 hen
      obtain ⟨t, r, u, hp, rfl, rfl⟩ := hkv.out
      simp only [ekN] at hrg2 hen ⊢
      have hJ2 : J ss w2 := hJ ss wr w2 (some W.heap.size) hJs hg2 (fun r e => by cases e; exact ⟨Nat.le_refl _, hrg.iter_walk⟩)
      have hJ3 : J ss (w2.alloc (.cells #[.int .i64 t, .int .i64 r] 24)) := hJ ss w2 _ none hJ2 (World.grownBy_alloc w2 _ none) (fun r e => by cases e)
      have hsz := hrg.size_le
      simp only [List.length_map] at hsz
      obtain ⟨fn, tmps, assign, body, hy, hR⟩ := hY ss (t, r) _ hJ3 (by omega)
      clear hs2
      dsimp only [ekN] at hy
      gi_wp2
      refine hR.mono ?_
      rintro e W3 (⟨rfl, hJ3, hk3⟩ | ⟨rfl, hJx3⟩)
      · gi_wp2
        have hrg3 := hrg2.of_walks ((KeepsWalks.alloc _ _).trans hk3)
        go_roundw
        case rel => exact ⟨cnt2, ss ++ [(t, r)], by simpa [ekN] using hrg3, hJ3⟩
        case measure => rw [hrg3.left_eq, hrg.left_eq]; exact hlt
      · gi_wp2
        refine bodyPost_ret (results_none rfl _ _ _) rfl ?_
        exact ⟨⟨_, rfl⟩, .inr ⟨_, trivial, hJx3⟩⟩
set_option maxHeartbeats 1000000 in
theorem keys_in (n : Nat) (mb : Option Nat) (w : World) :
    CallsIn Fence.wide n Try.prog 36 #[.map mb] w fun e w' => e = .returned (.func (.func 47) #[] #[.pointer (some ⟨w.heap.size, 0, none⟩)]) ∧ w' = w.alloc (.cells #[.map mb] 61) := by
  refine callsIn_of_wp Try.func36 rfl trivial ?_ rfl
  simp only [Try.ntmps36, List.size_toArray, List.length_cons, List.length_nil, Nat.reduceAdd, Nat.reduceSub, Array.replicate_succ, Array.replicate_zero, List.push_toArray, List.append_toArray, List.nil_append, List.cons_append]
  gi_wp2
  go_ret
  exact ⟨rfl, rfl⟩
theorem MapAt.below {w w' : World} {b : Nat} {l : List (Value × Value)} (h : MapAt w b l) (hb : Below w.heap.size w w') : MapAt w' b l := by
  obtain ⟨es, clock, hm, rest⟩ := h
  exact ⟨es, clock, (hb.block b (Array.getElem?_eq_some_iff.1 hm).1).trans hm, rest⟩
theorem keys_stops {V : Type} (ev : V → Value) (n : Nat) (hn : 1 ≤ n) (Bm b : Nat) (E : List ((Int × Int) × V)) (w0 w : World) (hB : Bm < w0.heap.size) (hm : w0.cell? ⟨Bm, 0, none⟩ = some (.map (some b))) (hown : MapAt w0 b (E.map fun p => (ekN p.1, ev p.2))) (hw : Below w0.heap.size w0 w) :
    SeqStopsK Fence.wide n Try.prog 47 #[.pointer (some ⟨Bm, 0, none⟩)] (fun x => #[ekN x]) KeepsWalks (fun ss => ss.Perm (E.map (·.1))) (fun _ => True) E.length w := fun l J Jx W hW hJ _ hY h0 => by
  have hW2 := hw.trans (hW.mono hw.size)
  exact keys1_in ev n hn l Bm b E J Jx hY W hJ ((hW2.cell (p := ⟨Bm, 0, none⟩) hB).trans hm) (hown.below hW2) h0
end Go.Proofs.Ytbpeajcfabjphaa
