/-
  Back, walked. No condition beside a log and a store that can be read.
-/
import Derived.Test.YtidbidalalajbaaBkB
namespace Go.Proofs.Ytidbidalalajbaa
open Go.RowKit Go.Shelf
attribute [local go_sem] Oper.semAt_some
set_option maxRecDepth 100000 in
set_option maxHeartbeats 4000000 in
theorem back_any (p m q sc : Nat) (sa : Option Addr) (E : Ent) (L : List Wa) (w : World) (rs : List Res) (hS : Sep w (sto p m E (lg q sa sc L rs))) (hn : L.length ≤ 1000) :
    Calls Try.prog 15 #[.pointer (some ⟨q, 0, none⟩), .pointer (some ⟨p, 0, none⟩)] w fun e w' => e = .returned (.tuple #[.int .i64 L.length, .int .i64 0]) ∧ Sep w' (sto p m (L.reverse.foldl undo1 E) (lg q none 0 [] rs)) := by
  obtain ⟨n, hl⟩ : ∃ n, L.length = n := ⟨_, rfl⟩
  rw [hl] at hn ⊢
  have hS0 := ((show Sep w (blk q 70 #[.slice sa n sc] :: vec 31 4 (.slice sa n sc) n (wacells L) :: blk p 68 #[.map (some m)] :: mapr ekN evI m E :: rs) from by rw [← hl]; exact (hS.bring 3 rfl).bring 3 rfl).alloc #[.pointer (some ⟨p, 0, none⟩)] 23).alloc #[.slice sa n sc] 37
  simp only [World.size_alloc] at hS0
  obtain ⟨_, c0, _⟩ := (hS.bring 2 rfl).b1
  rw [hl] at c0
  have hl := Lib.hid hl
  have hn := Lib.hid hn
  refine (callsIn_wide (n := 8)).1 ?_
  have h1 : 1 ≤ 8 := by omega
  replace hS := Lib.hid hS
  replace hS0 := Lib.hid hS0
  refine callsIn_of_wp_marks Try.func15 rfl trivial ?_ rfl
  simp only [Try.ntmps15, List.size_toArray, List.length_cons, List.length_nil, Nat.reduceAdd, Nat.reduceSub, Array.replicate_succ, Array.replicate_zero, List.push_toArray, List.append_toArray, List.nil_append, List.cons_append]
  gi_wp2_with (refine ⟨trivial, ?_⟩; gi_at_call 39; refine (back_in _ _ _ _ _).mono ?_; rintro e w' ⟨rfl, rfl⟩)
  obtain ⟨W0, hW0⟩ : ∃ W0, W0 = ((w.alloc (.cells #[.pointer (some ⟨p, 0, none⟩)] 23)).alloc (.cells #[.slice sa n sc] 37)) := ⟨_, rfl⟩
  have hsz : W0.heap.size = w.heap.size + 1 + 1 := by rw [hW0]; simp only [World.size_alloc]
  rw [← hW0] at hS0 ⊢
  have hrl : RL W0 (.slice sa n sc) 4 n (wacells L) := hS0.out.to3.vec_rl
  have hbs := hS0.out.b1
  have hP0 := (show Sep W0 (blk p 68 #[.map (some m)] :: mapr ekN evI m E :: blk (w.heap.size + 1) 37 #[.slice sa n sc] :: vec 31 4 (.slice sa n sc) n (wacells L) :: blk w.heap.size 23 #[.pointer (some ⟨p, 0, none⟩)] :: blk q 70 #[.slice sa n sc] :: rs) from (((hS0.out.bring 1 rfl).bring 3 rfl).bring 2 rfl |> fun h => (h.bring 5 rfl).bring 5 rfl)).toD
  obtain ⟨hAB, hAv⟩ : (w.heap.size + 1 < W0.heap.size ∧ w.heap.size + 1 ≠ p ∧ w.heap.size + 1 ≠ m) ∧ (∀ ad, sa = some ad → (ad.block < W0.heap.size ∧ ad.block ≠ p ∧ ad.block ≠ m)) := by
    obtain ⟨A1, h1, _, A2, k1, _, A3, b1, b2, A4, v1, v2, _⟩ := hP0
    have key : ∀ b, ¬ ((W0.heap.size ≤ b ∨ A1 b) ∨ A2 b) → (b < W0.heap.size ∧ b ≠ p ∧ b ≠ m) := fun b h => ⟨Nat.lt_of_not_le fun e => h (.inl (.inl e)), fun e => h (.inl (.inr ((h1.1 b).2 e))), fun e => h (.inr ((k1.1 b).2 e))⟩
    refine ⟨key _ (b2 _ ((b1.1 _).2 rfl)), fun ad e => key _ fun h => v2 _ ((v1.1 _).2 ?_) (.inl h)⟩
    rw [e]
    rfl
  replace hsz := Lib.hid hsz
  replace hW0 := Lib.hid hW0
  have hsz1 := hsz.out
  refine wpIn_rangeFunc_ownH rfl h1 (gf := 51) (lb := #[.pointer (some ⟨w.heap.size + 1, 0, none⟩)]) rfl trivial (enters_of Try.func51 (by kernel_rfl) rfl)
    (back_stops (8 - 1) (by omega) (w.heap.size + 1) (fun b => b < W0.heap.size ∧ b ≠ p ∧ b ≠ m) sa n sc L W0 W0 hl.out hn.out hrl hAv hbs.1 hAB hbs.2.1 (Below.refl _ _))
    Keeps.trans (fun W l o o' h _ _ _ => Keeps.grown (grownBy_putObj' W l o') fun k e => by cases e; simp; omega) (Below.refl _ _) (fun _ => rfl)
    (fun pre W => SepD W (blk p 68 #[.map (some m)] :: mapr ekN evI m (undoP E pre) :: blk (w.heap.size + 1) 37 #[.slice sa n sc] :: vec 31 4 (.slice sa n sc) n (wacells L) :: blk w.heap.size 23 #[.pointer (some ⟨p, 0, none⟩)] :: blk q 70 #[.slice sa n sc] :: rs) (fun b => W0.heap.size ≤ b) ∧ W0.heap.size ≤ W.heap.size)
    (fun _ _ _ => False)
    ((sepD_own _ _).and fun _ _ _ _ h hg _ => Nat.le_trans h hg.size)
    (fun _ _ _ _ _ hs _ _ => hs)
    ⟨hP0, Nat.le_refl _⟩
    (fun x a' W => ∃ Bx, W0.heap.size ≤ Bx ∧ Blk W Bx 31 #[.int .i64 x.2.t, .int .i64 x.2.r, .int .i64 x.2.v, .bool x.2.there] ∧ a' = { tmps := #[.pointer (some ⟨q, 0, none⟩), .pointer (some ⟨p, 0, none⟩), undef, .pointer (some ⟨w.heap.size, 0, none⟩), .int .i64 0, .int .i64 0, undef, .pointer (some ⟨Bx, 0, none⟩), .pointer (some ⟨q, 0, none⟩), .bool false, .bool false, .pointer (some ⟨p, 0, none⟩), .bool false, .bool false, .pointer (some ⟨q, 0, none⟩), .pointer (some ⟨q, 0, none⟩), .pointer (some ⟨q, 0, none⟩), .slice sa n sc, .func (.func 51) #[] #[.pointer (some ⟨w.heap.size + 1, 0, none⟩)], .int .i64 x.1, x.2.val, undef, undef, undef, undef, undef, undef, undef, undef, undef, undef, undef, undef, undef, undef], defers := [] })
    ?hAx ?assign ?body ?done ?stop
  case hAx =>
    rintro x a' _ W W' row ⟨Bx, hb, hB, e⟩ hg hr
    refine ⟨Bx, hb, (hg.block Bx hB.lt fun e' => ?_).trans hB, e⟩
    obtain ⟨_, o, ho, hc⟩ := hr Bx e'.symm
    rw [show W.heap[Bx]? = _ from hB] at ho
    cases ho
    cases hc
  case assign =>
    rintro l pre ⟨i, t, r, v, there⟩ W K ⟨hi, hsW⟩ hK
    replace hi := Lib.hid hi
    unfold bkenc Wa.val
    gi_wp2
    refine hK _ _ ((KeepsOthers.alloc _ _).from _) (Keeps.alloc _ _) ⟨(hi.out.keep (Keeps.alloc _ _)).mono (fun _ _ h => .inl h), by simp; omega⟩ ⟨W.heap.size, hsW, Blk.new _ _ _, rfl⟩
  case body =>
    rintro l pre ⟨i, t, r, v, there⟩ a' W _ _ ⟨hi, hsW⟩ ⟨Bx, hBx, bX, rfl⟩ _
    unfold Wa.val
    simp only at bX ⊢
    have hS1 := Lib.hid (show Sep W [blk p 68 #[.map (some m)], mapr ekN evI m (undoP E pre), oth p m W] from hi.oth_in)
    have x0 := bX.cell 0
    have x1 := bX.cell 1
    have x2 := bX.cell 2
    have x3 := bX.cell 3
    obtain ⟨_, s0, _⟩ := (hi.toS.bring 4 rfl).b1
    have hi := Lib.hid hi
    simp at x0 x1 x2 x3
    clear bX
    cases there with
    | true =>
      have HP := Lib.hid (put_any p m (undoP E pre) ⟨t, r, v, true⟩ W _ hS1.out rfl)
      simp only at HP
      gi_wp2_with (refine ⟨trivial, ?_⟩; gi_at_call 11; refine (CallsIn.inRound l (callsIn_wide.2 HP.out)).mono ?_; rintro e w' ⟨⟨ra, rb, rfl⟩, hq⟩)
      have hp := hi.out.two
      have hk := oth_keeps hq
      exact ⟨⟨hk.size, fun k o hb h0 _ => (hk.block k (Array.getElem?_eq_some_iff.1 h0).1 ⟨fun e => hp.1 (e ▸ hb), fun e => hp.2 (e ▸ hb)⟩).trans h0⟩, hk.mono fun b _ h => h.2, by rw [undoP_snoc]; exact hi.out.oth_out hq, Nat.le_trans hsW hk.size⟩
    | false =>
      have HP := Lib.hid (del_any p m (undoP E pre) ⟨t, r, v, false⟩ W _ hS1.out rfl)
      simp only at HP
      gi_wp2_with (refine ⟨trivial, ?_⟩; gi_at_call 25; refine (CallsIn.inRound l (callsIn_wide.2 HP.out)).mono ?_; rintro e w' ⟨⟨ra, rb, rfl⟩, hq⟩)
      have hp := hi.out.two
      have hk := oth_keeps hq
      exact ⟨⟨hk.size, fun k o hb h0 _ => (hk.block k (Array.getElem?_eq_some_iff.1 h0).1 ⟨fun e => hp.1 (e ▸ hb), fun e => hp.2 (e ▸ hb)⟩).trans h0⟩, hk.mono fun b _ h => h.2, by rw [undoP_snoc]; exact hi.out.oth_out hq, Nat.le_trans hsW hk.size⟩
  case done =>
    rintro D ys W hD hys ⟨hi, hsW⟩ hK
    have hu : undoP E ys = L.reverse.foldl undo1 E := by unfold undoP; rw [hys]
    rw [hu] at hi
    have hS2 := hi.ob_in hD hK
    have hS3 := Lib.hid (show Sep W (lg q sa sc L (ob D (.deferred (some [])) :: sto p m (L.reverse.foldl undo1 E) (blk (w.heap.size + 1) 37 #[.slice sa n sc] :: blk w.heap.size 23 #[.pointer (some ⟨p, 0, none⟩)] :: rs))) from by
      unfold lg sto
      rw [hl.out]
      exact ((hS2.bring 6 rfl).bring 5 rfl).to1)
    have HC := Lib.hid (clear_any q sc sa L W _ hS3.out (by rw [hl.out]; exact hn.out))
    rw [hl.out] at HC
    clear hi hS2 hu hys hrl hbs hP0 hAB hAv
    gi_wp2_with (refine ⟨trivial, ?_⟩; gi_at_call 17; refine (callsIn_wide.2 HC.out).mono ?_; rintro e w' ⟨rfl, hq⟩)
    have hq2 := (show Sep w' (ob D (.deferred (some [])) :: blk q 70 #[.slice none 0 0] :: vec 31 4 (.slice none 0 0) 0 (wacells []) :: blk p 68 #[.map (some m)] :: mapr ekN evI m (L.reverse.foldl undo1 E) :: blk (w.heap.size + 1) 37 #[.slice sa n sc] :: blk w.heap.size 23 #[.pointer (some ⟨p, 0, none⟩)] :: rs) from hq.to2)
    have hq3 := hq2.ob_put (.deferred none)
    refine ⟨by simp, .inl ⟨_, _, rfl, run_takeDeferred hq2.ob_get, ?_⟩⟩
    refine ⟨.tuple #[.int .i64 n, .int .i64 0], by simp [results, Try.results15, go_sem], rfl, ?_⟩
    exact ((hq3.bring 5 rfl).tail.bring 4 rfl).tail.to2.to3.to1
  case stop =>
    rintro D c pre W _ _ h _
    exact h.elim
end Go.Proofs.Ytidbidalalajbaa
