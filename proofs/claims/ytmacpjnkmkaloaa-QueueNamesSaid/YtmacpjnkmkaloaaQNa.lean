/-
  The queue's calls in the form that literal heads want; Same at requests. No condition beside requests that can be read.
-/
import Derived.Test.YtmacpjnkmkaloaaQLight
import Derived.Test.YtmacpjnkmkaloaaQUp
import Derived.Test.YtmacpjnkmkaloaaQAb
import Derived.Test.YtmacpjnkmkaloaaQHand
import Derived.Test.YtmacpjnkmkaloaaQBl
import Derived.Test.YtmacpjnkmkaloaaQGrp
import Derived.Test.YtmacpjnkmkaloaaQChk
import Derived.Test.YtmacpjnkmkaloaaQEq
import Derived.Test.YtmacpjnkmkaloaaOpen
namespace Go.Proofs.Ytmacpjnkmkaloaa
open Go.RowKit
def PS (v' : Value → Value) (R : List Rq) (m : Nat) (w : World) (e : Ending) (w' : World) : Prop := ∃ a c, e = .returned (v' (.slice a m c)) ∧ Sep w' [vq (.slice a m c) R, old w]
theorem nGrant (t r n : Int) (v : Value) (l : List Rq) (id0 t0 mo : Int) (w : World) (hv : RQ w v l) (hl : l.length ≤ 1000) (h0 : ¬ id0 < 0) (ha : askedB mo = true) (hc : l.any (fun q => q.id == id0 || q.txn == t0) = false) (hf : firstI l < 0) (hm0 : l.any (fitsP ⟨id0, t0, 0, mo, 0⟩) = false) (R : List Rq) (m : Nat) (hR : (l ++ [⟨id0, t0, mo, mo, 0⟩]) = R) (hm : R.length = m) :
    Calls Try.prog 30 #[.agg #[.int .i64 t, .int .i64 r, v, .int .i64 n], .int .i64 id0, .int .i64 t0, .int .i64 mo] w (PS (fun s => .tuple #[(.agg #[.int .i64 t, .int .i64 r, s, .int .i64 n]), .bool true, .int .i64 0]) R m w) := by
  refine (askP_grant t r n v l id0 t0 mo w hv hl h0 ha hc hf hm0).mono ?_
  rintro e w' ⟨a, c, rfl, q⟩
  subst hR hm
  refine ⟨a, c, ?_, ?_⟩
  · first | rfl | simp [hval]
  · first | exact q | simpa using q
theorem nWait2 (t r n : Int) (v : Value) (l : List Rq) (id0 t0 mo : Int) (w : World) (hv : RQ w v l) (hl : l.length ≤ 1000) (h0 : ¬ id0 < 0) (ha : askedB mo = true) (hc : l.any (fun q => q.id == id0 || q.txn == t0) = false) (hf : firstI l < 0) (hm0 : l.any (fitsP ⟨id0, t0, 0, mo, 0⟩) = true) (hn0 : 0 ≤ n) (hn1 : n ≤ 4611686018427387904) (R : List Rq) (m : Nat) (hR : (l ++ [⟨id0, t0, 0, mo, n + 1⟩]) = R) (hm : R.length = m) :
    Calls Try.prog 30 #[.agg #[.int .i64 t, .int .i64 r, v, .int .i64 n], .int .i64 id0, .int .i64 t0, .int .i64 mo] w (PS (fun s => .tuple #[(.agg #[.int .i64 t, .int .i64 r, s, .int .i64 (n + 1)]), .bool false, .int .i64 0]) R m w) := by
  refine (askP_wait2 t r n v l id0 t0 mo w hv hl h0 ha hc hf hm0 hn0 hn1).mono ?_
  rintro e w' ⟨a, c, rfl, q⟩
  subst hR hm
  refine ⟨a, c, ?_, ?_⟩
  · first | rfl | simp [hval]
  · first | exact q | simpa using q
theorem nUpW1 (t r n : Int) (v : Value) (l : List Rq) (id0 mo : Int) (i : Nat) (w : World) (hv : RQ w v l) (hl : l.length ≤ 1000) (ha : askedB mo = true) (hi : plc l id0 = i) (hil : i < l.length) (hs : decide (0 < (l.getD i default).since) = false) (hu : supV (l.getD i default).mode mo ≠ (l.getD i default).mode) (hf : l.any (fitsP (upQ (l.getD i default) mo)) = true) (hn0 : 0 ≤ n) (hn1 : n ≤ 4611686018427387904) (R : List Rq) (m : Nat) (hR : (l.set i { upQ (l.getD i default) mo with since := n + 1 }) = R) (hm : R.length = m) :
    Calls Try.prog 31 #[.agg #[.int .i64 t, .int .i64 r, v, .int .i64 n], .int .i64 id0, .int .i64 mo] w (PS (fun s => .tuple #[(.agg #[.int .i64 t, .int .i64 r, s, .int .i64 (n + 1)]), .bool false, .int .i64 0]) R m w) := by
  refine (upP_wait1 t r n v l id0 mo w hv hl ha i hi hil hs hu hf hn0 hn1).mono ?_
  rintro e w' ⟨a, c, rfl, q⟩
  subst hR hm
  refine ⟨a, c, ?_, ?_⟩
  · first | rfl | simp [hval]
  · first | exact q | simpa using q
theorem nUpW2 (t r n : Int) (v : Value) (l : List Rq) (id0 mo : Int) (i : Nat) (w : World) (hv : RQ w v l) (hl : l.length ≤ 1000) (ha : askedB mo = true) (hi : plc l id0 = i) (hil : i < l.length) (hs : decide (0 < (l.getD i default).since) = false) (hu : supV (l.getD i default).mode mo ≠ (l.getD i default).mode) (hf : l.any (fitsP (upQ (l.getD i default) mo)) = false) (hup : l.any upB = true) (hn0 : 0 ≤ n) (hn1 : n ≤ 4611686018427387904) (R : List Rq) (m : Nat) (hR : (l.set i { upQ (l.getD i default) mo with since := n + 1 }) = R) (hm : R.length = m) :
    Calls Try.prog 31 #[.agg #[.int .i64 t, .int .i64 r, v, .int .i64 n], .int .i64 id0, .int .i64 mo] w (PS (fun s => .tuple #[(.agg #[.int .i64 t, .int .i64 r, s, .int .i64 (n + 1)]), .bool false, .int .i64 0]) R m w) := by
  refine (upP_wait2 t r n v l id0 mo w hv hl ha i hi hil hs hu hf hup hn0 hn1).mono ?_
  rintro e w' ⟨a, c, rfl, q⟩
  subst hR hm
  refine ⟨a, c, ?_, ?_⟩
  · first | rfl | simp [hval]
  · first | exact q | simpa using q
theorem nUpS (t r n : Int) (v : Value) (l : List Rq) (id0 mo : Int) (i : Nat) (w : World) (hv : RQ w v l) (hl : l.length ≤ 1000) (ha : askedB mo = true) (hi : plc l id0 = i) (hil : i < l.length) (hs : decide (0 < (l.getD i default).since) = false) (hu : supV (l.getD i default).mode mo = (l.getD i default).mode) (R : List Rq) (m : Nat) (hR : (l.set i { upQ (l.getD i default) mo with mode := supV (l.getD i default).mode mo }) = R) (hm : R.length = m) :
    Calls Try.prog 31 #[.agg #[.int .i64 t, .int .i64 r, v, .int .i64 n], .int .i64 id0, .int .i64 mo] w (PS (fun s => .tuple #[(.agg #[.int .i64 t, .int .i64 r, s, .int .i64 n]), .bool true, .int .i64 0]) R m w) := by
  refine (upP_same t r n v l id0 mo w hv hl ha i hi hil hs hu).mono ?_
  rintro e w' ⟨a, c, rfl, q⟩
  subst hR hm
  refine ⟨a, c, ?_, ?_⟩
  · first | rfl | simp [hval]
  · first | exact q | simpa using q
theorem nLeave (t r n : Int) (v : Value) (l : List Rq) (id0 : Int) (i : Nat) (w : World) (hv : RQ w v l) (hl : l.length ≤ 1000) (hi : idxF (fun q => q.id == id0) l 0 = i) (R : List Rq) (m : Nat) (hR : (keepQ (fun q => q.id == id0) l) = R) (hm : R.length = m) :
    Calls Try.prog 20 #[.agg #[.int .i64 t, .int .i64 r, v, .int .i64 n], .int .i64 id0] w (PS (fun s => .tuple #[(.agg #[.int .i64 t, .int .i64 r, s, .int .i64 n]), .int .i64 0]) R m w) := by
  refine (leaveP_some t r n v l id0 i w hv hl hi).mono ?_
  rintro e w' ⟨a, c, rfl, q⟩
  subst hR hm
  refine ⟨a, c, ?_, ?_⟩
  · first | rfl | simp [hval]
  · first | exact q | simpa using q
theorem nStay (t r n : Int) (v : Value) (l : List Rq) (id0 : Int) (i : Nat) (w : World) (hv : RQ w v l) (hl : l.length ≤ 1000) (hi : plc l id0 = i) (hil : i < l.length) (hs : decide (0 < (l.getD i default).since) = true) (hm0 : (l.getD i default).mode ≠ 0) (R : List Rq) (m : Nat) (hR : (calm l i) = R) (hm : R.length = m) :
    Calls Try.prog 32 #[.agg #[.int .i64 t, .int .i64 r, v, .int .i64 n], .int .i64 id0] w (PS (fun s => .tuple #[(.agg #[.int .i64 t, .int .i64 r, s, .int .i64 n]), .int .i64 0]) R m w) := by
  refine (abP_stay t r n v l id0 w hv hl i hi hil hs hm0).mono ?_
  rintro e w' ⟨a, c, rfl, q⟩
  subst hR hm
  refine ⟨a, c, ?_, ?_⟩
  · first | rfl | simp [hval]
  · first | exact q | simpa using q
theorem nGone (t r n : Int) (v : Value) (l : List Rq) (id0 : Int) (i : Nat) (w : World) (hv : RQ w v l) (hl : l.length ≤ 1000) (hi : plc l id0 = i) (hil : i < l.length) (hs : decide (0 < (l.getD i default).since) = true) (hm0 : (l.getD i default).mode = 0) (R : List Rq) (m : Nat) (hR : (keepQ (fun q => q.id == id0) l) = R) (hm : R.length = m) :
    Calls Try.prog 32 #[.agg #[.int .i64 t, .int .i64 r, v, .int .i64 n], .int .i64 id0] w (PS (fun s => .tuple #[(.agg #[.int .i64 t, .int .i64 r, s, .int .i64 n]), .int .i64 0]) R m w) := by
  refine (abP_gone t r n v l id0 w hv hl i hi hil hs hm0).mono ?_
  rintro e w' ⟨a, c, rfl, q⟩
  subst hR hm
  refine ⟨a, c, ?_, ?_⟩
  · first | rfl | simp [hval]
  · first | exact q | simpa using q
theorem nHand (t r n : Int) (v : Value) (l : List Rq) (id0 t0 : Int) (i : Nat) (w : World) (hv : RQ w v l) (hl : l.length ≤ 1000) (hi : plc l id0 = i) (hil : i < l.length) (hc : l.any (handP id0 t0) = false) (hs : decide (0 < (l.getD i default).since) = false) (R : List Rq) (m : Nat) (hR : (l.set i { l.getD i default with txn := t0 }) = R) (hm : R.length = m) :
    Calls Try.prog 33 #[.agg #[.int .i64 t, .int .i64 r, v, .int .i64 n], .int .i64 id0, .int .i64 t0] w (PS (fun s => .tuple #[(.agg #[.int .i64 t, .int .i64 r, s, .int .i64 n]), .int .i64 0]) R m w) := by
  refine (hand_ok t r n v l id0 t0 w hv hl i hi hil hc hs).mono ?_
  rintro e w' ⟨a, c, rfl, q⟩
  subst hR hm
  refine ⟨a, c, ?_, ?_⟩
  · first | rfl | simp [hval]
  · first | exact q | simpa using q
set_option maxHeartbeats 1000000 in
/-- Lists of requests that read the same are the same. -/
theorem sameRq_true (u v : Value) (l : List Rq) (w : World) (hl : l.length ≤ 1000) (hu : RQ w u l) (hv : RQ w v l) :
    Calls Try.prog 34 #[u, v] w fun e w' => e = .returned (.bool true) ∧ ∃ m, w' = w.drewN m := by
  obtain ⟨a, c, rfl, _, _, hr⟩ := hu
  obtain ⟨a', c', rfl, _, _, hr'⟩ := hv
  have HR := Lib.hid hr
  have HR' := Lib.hid hr'
  clear hr hr'
  generalize hn : l.length = n at *
  go_enter Try.func34, Try.ntmps34
  go_wp2
  go_loopw [5] (fun i w1 => ∃ k : Nat, k ≤ n ∧ i = .int .i64 k ∧ ∃ m, w1 = w.drewN m) (fun i _ => n - (intOf i).toNat)
  case atStart => exact ⟨0, Nat.zero_le _, rfl, 0, rfl⟩
  case round =>
    obtain ⟨k, hk, rfl, m, rfl⟩ := hrel
    by_cases hlt : k < n
    · obtain ⟨b, off, rfl, _, hc⟩ := HR.out (by omega)
      obtain ⟨b', off', rfl, _, hc'⟩ := HR'.out (by omega)
      obtain ⟨a0, a1, a2, a3, a4⟩ := hc k hlt
      obtain ⟨b0, b1, b2, b3, b4⟩ := hc' k hlt
      clear hc hc' HR HR'
      generalize l.getD k default = q at *
      have hqe : ∀ W, (binOp .neq 48 (.agg #[.int .i64 q.id, .int .i64 q.txn, .int .i64 q.mode, .int .i64 q.want, .int .i64 q.since]) (.agg #[.int .i64 q.id, .int .i64 q.txn, .int .i64 q.mode, .int .i64 q.want, .int .i64 q.since])).run Try.prog W = .ok (.bool false) W := fun W => by rw [run_neq_req]; simp [reqB]
      have i1 : (0 : Int) ≤ (k : Int) := by omega
      have i2 : (k : Int) < (n : Int) := by omega
      go_wp2_with fail
      go_quiet (fail)
      go_wp2_with fail
      go_roundw
      case rel => exact ⟨k + 1, by omega, by go_num, _, rfl⟩
      case measure => simp [intOf]; omega
    · go_wp2_with fail
      go_ret
      exact ⟨rfl, _, rfl⟩
theorem ri_two {w : World} {g : Nat} {x y : Int} {t : TypeId} {rs : List Res} (h : Sep w (blk g t #[.int .i64 x, .int .i64 y] :: rs)) : RI w (.slice (some ⟨g, 0, none⟩) 2 2) [x, y] :=
  ⟨_, 2, rfl, fun _ => ⟨g, 0, rfl, h.b2.1, fun j hj => by
    have h2 : j = 0 ∨ j = 1 := by simp at hj; omega
    rcases h2 with rfl | rfl
    · exact h.b2.2.1
    · exact h.b2.2.2.1⟩⟩
theorem nrm_sorted (xs : List Int) (hs : xs.Pairwise (· ≤ ·)) : nrm xs = Lib.compact xs := by
  unfold nrm
  rw [← sorted_eq (List.Perm.refl xs) hs]
end Go.Proofs.Ytmacpjnkmkaloaa
