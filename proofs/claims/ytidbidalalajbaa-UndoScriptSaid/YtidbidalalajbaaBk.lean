/-
  slices.Backward over records: the iterator's contract. No condition beside a list that can be read.
-/
import Derived.RangeFuncBox
import Derived.RangeFuncLeaves
import Derived.RangeFuncNested
import Derived.RangeFuncBound
import Derived.RangeFuncCalls
import Derived.Shelf.Abstract
import Derived.Shelf.RegionOpen
import Derived.WalkKit
import Derived.OwnWalkIn
import Derived.TacticsInMore
import Derived.LoopNIn
import Derived.LoopIn
import Derived.Test.YtidbidalalajbaaLog
namespace Go.Proofs.Ytidbidalalajbaa
open Go.RowKit Go.Shelf
attribute [local go_sem] Oper.semAt_some
theorem Keeps.cell {A : Nat → Prop} {w w' : World} (h : Keeps A w w') {p : Addr} (hp : p.block < w.heap.size) (ha : A p.block) : w'.cell? p = w.cell? p := World.cell?_of_block (w := w) (h.block p.block hp ha)
theorem wa_cells {w : World} {a : Option Addr} {n c : Nat} {L : List Wa} (hv : RL w (.slice a n c) 4 n (wacells L)) (hn : L.length = n) (h0 : 0 < n) :
    ∃ b off, a = some ⟨b, off, none⟩ ∧ b < w.heap.size ∧ ∀ k x, L[k]? = some x → w.cell? ⟨b, off + (k * 4 + 0), none⟩ = some (.int .i64 x.t) ∧ w.cell? ⟨b, off + (k * 4 + 1), none⟩ = some (.int .i64 x.r) ∧ w.cell? ⟨b, off + (k * 4 + 2), none⟩ = some (.int .i64 x.v) ∧ w.cell? ⟨b, off + (k * 4 + 3), none⟩ = some (.bool x.there) := by
  subst hn
  obtain ⟨b, off, c', hv', _, hb, h⟩ := RL.at_ wa_len hv h0
  injection hv' with e1 _ _
  exact ⟨b, off, e1, hb, fun k x hk => ⟨h k x hk 0 _ rfl, h k x hk 1 _ rfl, h k x hk 2 _ rfl, h k x hk 3 _ rfl⟩⟩
def bkenc (x : Int × Wa) : Array Value := #[.int .i64 x.1, x.2.val]
set_option maxRecDepth 100000 in
set_option maxHeartbeats 2000000 in
theorem back1_in (n : Nat) (hn : 1 ≤ n) (l Bs : Nat) (A : Nat → Prop) (sa : Option Addr) (len cap : Nat) (L : List Wa) (w0 : World) (hl : L.length = len) (hm : len ≤ 1000) (hv : RL w0 (.slice sa len cap) 4 len (wacells L)) (hA : ∀ ad, sa = some ad → A ad.block) (hB : Bs < w0.heap.size) (hAB : A Bs) (hc : w0.cell? ⟨Bs, 0, none⟩ = some (.slice sa len cap)) (J Jx : List (Int × Wa) → World → Prop)
    (hY : ∀ pre x W, J pre W → pre.length < len → YieldAt Fence.wide (n - 1) Try.prog l (bkenc x) W fun e W' =>
      (e = .returned (.bool true) ∧ J (pre ++ [x]) W' ∧ Keeps A W W') ∨ (e = .returned (.bool false) ∧ Jx (pre ++ [x]) W'))
    (W : World) (hW : Keeps A w0 W) (h0 : J [] W) :
    CallsIn Fence.wide n Try.prog 51 #[.func (.yield l) #[] #[], .pointer (some ⟨Bs, 0, none⟩)] W fun e W' => (∃ v, e = .returned v) ∧
      ((∃ ys : List (Int × Wa), ys.map (·.2) = L.reverse ∧ J ys W') ∨ (∃ pre, True ∧ Jx pre W')) := by
  have c0 := (hW.cell (p := ⟨Bs, 0, none⟩) hB hAB).trans hc
  replace hl := Lib.hid hl
  replace hv := Lib.hid hv
  replace hA := Lib.hid hA
  refine callsIn_of_wp Try.func51 rfl trivial ?_ rfl
  simp only [Try.ntmps51, List.size_toArray, List.length_cons, List.length_nil, Nat.reduceAdd, Nat.reduceSub, Array.replicate_succ, Array.replicate_zero, List.push_toArray, List.append_toArray, List.nil_append, List.cons_append]
  gi_wp2
  gi_loopw [3] (fun i wr => ∃ (pre : List (Int × Wa)), J pre wr ∧ Hid (Keeps A w0 wr) ∧ ∃ k : Nat, k ≤ len ∧ i = .int .i64 ((k : Int) - 1) ∧ Hid (pre.map (·.2) = (L.drop k).reverse))
    (fun i _ => (intOf i + 1).toNat)
  case atStart => exact ⟨[], h0, hW, len, Nat.le_refl _, by simp, Lib.hid (by have h := hl.out; subst h; simp)⟩
  case round =>
    obtain ⟨pre, hJs, hnx, k, hk, rfl, hpre⟩ := hrel
    cases k with
    | zero =>
      gi_wp2
      go_end0
      exact ⟨⟨_, rfl⟩, .inl ⟨pre, by rw [hpre.out]; rfl, hJs⟩⟩
    | succ k =>
      have ek : ((k + 1 : Nat) : Int) - 1 = (k : Int) := by omega
      rw [ek]
      obtain ⟨b, off, rfl, hbl, hz⟩ := wa_cells hv.out hl.out (by omega)
      obtain ⟨x, hx⟩ : ∃ x, L[k]? = some x := ⟨L[k]'(by rw [hl.out]; omega), List.getElem?_eq_getElem _⟩
      obtain ⟨z0, z1, z2, z3⟩ := hz k x hx
      have hAb : A b := hA.out _ rfl
      have hkk : ∀ o, w0.cell? ⟨b, o, none⟩ = wr.cell? ⟨b, o, none⟩ := fun o => (hnx.out.cell (p := ⟨b, o, none⟩) hbl hAb).symm
      rw [hkk] at z0 z1 z2 z3
      have E := Lib.hid (show (pre ++ [((k : Int), x)]).map (·.2) = (L.drop k).reverse by
        obtain ⟨h1, h2⟩ := List.getElem?_eq_some_iff.1 hx
        rw [List.map_append, hpre.out, List.drop_eq_getElem_cons h1, h2]
        simp)
      have hlen : pre.length < len := by
        have := congrArg List.length hpre.out
        rw [List.length_map, List.length_reverse, List.length_drop, hl.out] at this
        omega
      obtain ⟨fn, tmps, assign, body, hy, hR⟩ := hY pre ((k : Int), x) wr hJs hlen
      have c1 := (hnx.out.cell (p := ⟨Bs, 0, none⟩) hB hAB).trans hc
      have i1 : (0 : Int) ≤ (k : Int) := by omega
      have i2 : (k : Int) < (len : Int) := by omega
      obtain ⟨t, r, v, there⟩ := x
      dsimp only [bkenc, Wa.val] at hy
      simp only [← Nat.add_assoc, Nat.add_zero] at z0 z1 z2 z3
      clear hz hkk hx hbl hc
      gi_wp2
      refine hR.mono ?_
      rintro e W3 (⟨rfl, hJ3, hk3⟩ | ⟨rfl, hJx3⟩)
      · replace hnx := Lib.hid (hnx.out.trans hk3)
        clear z0 z1 z2 z3 c1 hR hy
        gi_wp2
        go_roundw
        case rel => exact ⟨_, hJ3, hnx.out, k, by omega, by simp, E.out⟩
        case measure => simp [intOf]
      · gi_wp2
        refine bodyPost_ret (results_none rfl _ _ _) rfl ?_
        exact ⟨⟨_, rfl⟩, .inr ⟨_, trivial, hJx3⟩⟩
set_option maxHeartbeats 1000000 in
theorem back_in (n : Nat) (a : Option Addr) (len cap : Nat) (w : World) :
    CallsIn Fence.wide n Try.prog 39 #[.slice a len cap] w fun e w' => e = .returned (.func (.func 51) #[] #[.pointer (some ⟨w.heap.size, 0, none⟩)]) ∧ w' = w.alloc (.cells #[.slice a len cap] 37) := by
  refine callsIn_of_wp Try.func39 rfl trivial ?_ rfl
  simp only [Try.ntmps39, List.size_toArray, List.length_cons, List.length_nil, Nat.reduceAdd, Nat.reduceSub, Array.replicate_succ, Array.replicate_zero, List.push_toArray, List.append_toArray, List.nil_append, List.cons_append]
  gi_wp2
  go_ret
  exact ⟨rfl, rfl⟩
theorem back_stops (n : Nat) (hn : 1 ≤ n) (Bs : Nat) (A : Nat → Prop) (sa : Option Addr) (len cap : Nat) (L : List Wa) (w0 w : World) (hl : L.length = len) (hm : len ≤ 1000) (hv : RL w0 (.slice sa len cap) 4 len (wacells L)) (hA : ∀ ad, sa = some ad → A ad.block) (hB : Bs < w0.heap.size) (hAB : A Bs) (hc : w0.cell? ⟨Bs, 0, none⟩ = some (.slice sa len cap)) (hw : Below w0.heap.size w0 w) :
    SeqStopsK Fence.wide n Try.prog 51 #[.pointer (some ⟨Bs, 0, none⟩)] bkenc (Keeps A) (fun ys => ys.map (·.2) = L.reverse) (fun _ => True) len w := fun l J Jx W hW _ _ hY h0 =>
  back1_in n hn l Bs A sa len cap L w0 hl hm hv hA hB hAB hc J Jx hY W (Keeps.below (hw.trans (hW.mono hw.size))) h0
end Go.Proofs.Ytidbidalalajbaa
