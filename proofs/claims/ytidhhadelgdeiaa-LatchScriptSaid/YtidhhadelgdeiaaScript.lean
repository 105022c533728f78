/-
  Whatever is tried and freed, latches are what the document says: the walk of LatchScript. No condition beside arguments that can be read.
-/
import Derived.Test.YtidhhadelgdeiaaCallsD
import Derived.Test.YtidhhadelgdeiaaRef
import Derived.Deep.RegionHeld3
namespace Go.Proofs.Ytidhhadelgdeiaa
open Go.RowKit
theorem Lat.grown_apart {w w' : World} {p g p' g' : Nat} {L L' : List Int} (h : Lat w p g L) (h' : LatR w p' g' L') (hg : w.grownBy w' (some g')) : Lat w' p g L := by
  obtain ⟨c, cur, _, a2, _⟩ := h'.ex
  exact h.grown_type a2 (by decide) hg
theorem LatR.grown_apart {w w' : World} {p g p' g' : Nat} {L L' : List Int} (h : LatR w p g L) (h' : Lat w p' g' L') (hg : w.grownBy w' (some g')) : LatR w' p g L := by
  obtain ⟨cs, hcs, _⟩ := h'.hg
  obtain ⟨c, cur, a1, a2, _⟩ := h.ex
  exact h.grown hg (a1.ne_ hcs (by decide)) (a2.ne_ hcs (by decide))
/-- Both, beside what was there. -/
structure Two (w0 w : World) (p g p' g' : Nat) (L M : List Int) : Prop where
  l : Lat w p g L
  r : LatR w p' g' M
  b : Below w0.heap.size w0 w
  hg : w0.heap.size ≤ g
  hr : w0.heap.size ≤ g'
section
variable {w0 w w' : World} {p g p' g' : Nat} {L L' M M' : List Int}
theorem Two.left (h : Two w0 w p g p' g' L M) (k : Lat w' p g L') (hg : w.grownBy w' (some g)) : Two w0 w' p g p' g' L' M :=
  ⟨k, h.r.grown_apart h.l hg, below_grown h.b hg h.b.size h.hg, h.hg, h.hr⟩
theorem Two.right (h : Two w0 w p g p' g' L M) (k : LatR w' p' g' M') (hg : w.grownBy w' (some g')) : Two w0 w' p g p' g' L M' :=
  ⟨h.l.grown_apart h.r hg, k, below_grown h.b hg h.b.size h.hr, h.hg, h.hr⟩
theorem Two.below (h : Two w0 w p g p' g' L M) (hb : Below w.heap.size w w') : Two w0 w' p g p' g' L M := ⟨h.l.below hb, h.r.below hb, h.b.trans (hb.mono h.b.size), h.hg, h.hr⟩
theorem Two.drewN (h : Two w0 w p g p' g' L M) (n : Nat) : Two w0 (w.drewN n) p g p' g' L M := ⟨h.l.grown_none (grown_drewN (grown_refl w none) n), h.r.drewN n, below_drewN h.b n, h.hg, h.hr⟩
theorem Two.drew (h : Two w0 w p g p' g' L M) : Two w0 w.drew p g p' g' L M := h.drewN 1
end

/-- And the act's box. -/
structure Thr (w0 w : World) (p g p' g' : Nat) (L M : List Int) (A : Nat) (c k t : Int) : Prop where
  two : Two w0 w p g p' g' L M
  box : Blk w A 31 #[.int .i64 c, .int .i64 k, .int .i64 t]
section
variable {w0 w w' : World} {p g p' g' A : Nat} {L L' M M' : List Int} {c k t : Int}
theorem Thr.left (h : Thr w0 w p g p' g' L M A c k t) (q : Lat w' p g L') (hg : w.grownBy w' (some g)) : Thr w0 w' p g p' g' L' M A c k t :=
  ⟨h.two.left q hg, by obtain ⟨cs, hcs, _⟩ := h.two.l.hg; exact h.box.grown hg (fun e => by injection e with e; exact h.box.ne_ hcs (by decide) e)⟩
theorem Thr.right (h : Thr w0 w p g p' g' L M A c k t) (q : LatR w' p' g' M') (hg : w.grownBy w' (some g')) : Thr w0 w' p g p' g' L M' A c k t :=
  ⟨h.two.right q hg, by obtain ⟨_, cur, _, hcs, _⟩ := h.two.r.ex; exact h.box.grown hg (fun e => by injection e with e; exact h.box.ne_ hcs (by decide) e)⟩
theorem Thr.below (h : Thr w0 w p g p' g' L M A c k t) (hb : Below w.heap.size w w') : Thr w0 w' p g p' g' L M A c k t := ⟨h.two.below hb, h.box.below' hb⟩
theorem Thr.drewN (h : Thr w0 w p g p' g' L M A c k t) (n : Nat) : Thr w0 (w.drewN n) p g p' g' L M A c k t := ⟨h.two.drewN n, h.box⟩
theorem Thr.drew (h : Thr w0 w p g p' g' L M A c k t) : Thr w0 w.drew p g p' g' L M A c k t := h.drewN 1
theorem Thr.c1 (h : Thr w0 w p g p' g' L M A c k t) : w.cell? ⟨A, 1, none⟩ = some (.int .i64 k) := h.box.cell 1
theorem Thr.c2 (h : Thr w0 w p g p' g' L M A c k t) : w.cell? ⟨A, 2, none⟩ = some (.int .i64 t) := h.box.cell 2
theorem Two.boxed (h : Two w0 w p g p' g' L M) (c k t : Int) : Thr w0 (w.alloc (.cells #[.int .i64 c, .int .i64 k, .int .i64 t] 31)) p g p' g' L M w.heap.size c k t :=
  ⟨h.below ((Below.refl _ _).alloc (Nat.le_refl _) _), Blk.new w 31 _⟩
end
set_option maxHeartbeats 4000000 in
set_option maxRecDepth 100000 in
theorem script_walk (a0 : Int) (a : Option Addr) (len cap : Nat) (z : Nat → Nat → Int) (w : World) (_h0 : (Lit.int .i64 a0).wf = true) (h : IsRows 3 w a len cap z) :
    Calls Try.prog 7 #[.int .i64 a0, .slice a len cap] w fun e w' => e = .returned (.bool true) ∧ Below w.heap.size w w' := by
  by_cases h60 : 60 < len
  · go_enter Try.func7, Try.ntmps7
    go_wp2_with (go_at_call 8; refine (lives_any _).mono ?_; rintro e w1 ⟨rfl, b1⟩)
    go_ret
    exact ⟨rfl, b1⟩
  · by_cases hn : a0 < 1 ∨ 16 < a0
    · clear h
      go_enter Try.func7, Try.ntmps7
      go_wp2_with fail
      refine (lives_any _).mono ?_
      rintro e w1 ⟨rfl, b1⟩
      go_wp2_with fail
      refine (new_bad a0 _ hn).mono ?_
      rintro e w2 ⟨rfl, rfl⟩
      go_wp2_with fail
      refine (newR_bad a0 _ hn).mono ?_
      rintro e w2 ⟨rfl, rfl⟩
      go_wp2_with fail
      go_ret
      exact ⟨rfl, b1⟩
    · obtain ⟨n, rfl⟩ := Int.eq_ofNat_of_zero_le (show 0 ≤ a0 by omega)
      have hn1 : 1 ≤ n := by omega
      have hn2 : n ≤ 16 := by omega
      have H := Lib.hid h
      clear h hn
      go_enter Try.func7, Try.ntmps7
      go_wp2_with fail
      refine (lives_any _).mono ?_
      rintro e w1 ⟨rfl, b1⟩
      go_wp2_with fail
      refine (new_ok n _ hn1 hn2).mono ?_
      rintro e w2 ⟨rfl, hL, b2⟩
      go_wp2_with fail
      refine (newR_ok n _ hn1 hn2).mono ?_
      rintro e w3 ⟨p', g', rfl, hR, q1, q2, b3⟩
      have hT : Hid (Two w w3 (w1.heap.size + 1) w1.heap.size p' g' (replC n) (replC n)) := ⟨hL.below b3, hR, b1.trans ((b2.mono b1.size).trans (b3.mono (Nat.le_trans b1.size b2.size))), b1.size, Nat.le_trans (Nat.le_trans b1.size b2.size) q2⟩
      clear hL hR b1 b2 b3 q1 q2
      generalize w1.heap.size = g at *
      generalize hp : g + 1 = p at *
      generalize replC n = L0 at *
      replace hp := Lib.hid hp
      go_wp2_with fail
      go_loopw [9] (fun i wr => ∃ k1 : Nat, k1 ≤ len ∧ i = .int .i64 k1 ∧ ∃ L, Hid (Two w wr p g p' g' L L)) (fun i _ => len - (intOf i).toNat)
      case atStart => exact ⟨0, Nat.zero_le _, rfl, L0, hT⟩
      case round =>
        clear hT
        obtain ⟨i, hi, rfl, L, hT⟩ := hrel
        by_cases hlt : i < len
        · obtain ⟨hlc, hcm, b, off, rfl, hbs, hz⟩ : len ≤ cap ∧ cap ≤ maxLen ∧ ∃ b off, a = some ⟨b, off, none⟩ ∧ b < w.heap.size ∧ ∀ i, i < len → ∀ j, j < 3 → w.cell? ⟨b, off + i * 3 + j, none⟩ = some (.int .i64 (z i j)) ∧ (Lit.int .i64 (z i j)).wf = true := ⟨H.out.1, H.out.2.1, H.out.2.2 (by omega)⟩
          have z0 := (hz i hlt 0 (by omega)).1
          have z1 := (hz i hlt 1 (by omega)).1
          have z2 := (hz i hlt 2 (by omega)).1
          rw [Nat.add_zero] at z0
          rw [← hT.out.b.cell (by exact hbs)] at z0 z1 z2
          clear hz H
          generalize z i 0 = c at *
          generalize z i 1 = k at *
          generalize z i 2 = t at *
          obtain ⟨q, PQ⟩ := pick_nat c 3 (by omega) (by omega)
          go_wp2_with fail
          refine (PQ.run.out _).mono ?_
          rintro e w5 ⟨rfl, rfl⟩
          have hU := hT.out.boxed c k t
          have c1 := hU.c1
          have c2 := hU.c2
          replace hU := Lib.hid hU
          clear z0 z1 z2 hT
          by_cases hq : q < 2
          · go_wp2_with fail
            refine (try_any p g k t L _ hU.out.two.l).mono ?_
            rintro e w6 ⟨rfl, hL6, g6⟩
            have hU6 := hU.out.left hL6 g6
            have c1' := hU6.c1
            have c2' := hU6.c2
            replace hU6 := Lib.hid hU6
            clear c1 c2 hL6 g6 hU
            go_wp2_with fail
            refine (tryR_any p' g' k t L _ hU6.out.two.r).mono ?_
            rintro e w7 ⟨rfl, hR7, g7⟩
            have hU7 := hU6.out.right hR7 g7
            have c1 := hU7.c1
            have c2 := hU7.c2
            replace hU7 := Lib.hid hU7
            clear c1' c2' hR7 g7 hU6
            go_wp2_with fail
            generalize hM : tryS L k t = M at *
            have hM := Lib.hid hM
            refine (holder_any p g k _ _ hU7.out.two.l).mono ?_
            rintro e w8 ⟨rfl, rfl⟩
            go_wp2_with fail
            refine (holderR_any p' g' k _ _ hU7.out.two.r).mono ?_
            rintro e w8 ⟨rfl, rfl⟩
            generalize hasV M k = hv at *
            generalize hasB M k = hb at *
            go_wp2_with fail
            go_region_held3 (fun w' => w'.cell? ⟨wr.heap.size, 1, none⟩ = some (.int .i64 k) ∧ w'.cell? ⟨wr.heap.size, 2, none⟩ = some (.int .i64 t)) (exact ⟨by assumption, by assumption⟩)
              (first | (go_at_call 13; refine (held_any p g t _ _ (by first | exact hU7.out.two.l | exact hU7.out.drew.two.l)).mono ?_; rintro e w8 ⟨v8, rfl, o8, b8⟩; have hU8 := Lib.hid ((show Thr w _ p g p' g' M M wr.heap.size c k t from by first | exact hU7.out | exact hU7.out.drew).below b8); have r8 := Lib.hid (RI.of_own o8); have c8 := hU8.out.c1; have d8 := hU8.out.c2; clear o8 b8) | (go_at_call 22; refine (heldR_any p' g' t _ _ hU8.out.two.r).mono ?_; rintro e w9 ⟨v9, rfl, o9, b9⟩; have hU9 := Lib.hid (hU8.out.below b9); have q8 := Lib.hid (r8.out.below b9); have r9 := Lib.hid (RI.of_own o9); have c9 := hU9.out.c1; have d9 := hU9.out.c2; clear o9 b9) | (go_at_call 17; refine (same_true v8 v9 _ _ (Nat.le_trans (heldK_len _ _ _) (Nat.le_trans hU9.out.two.l.len (by decide))) q8.out r9.out).mono ?_; rintro e w10 ⟨rfl, nd, rfl⟩; have hU10 := Lib.hid (hU9.out.drewN nd); have c10 := hU10.out.c1; have d10 := hU10.out.c2) | (go_at_call 16; refine (len_any p g _ _ hU10.out.two.l).mono ?_; rintro e w11 ⟨rfl, rfl⟩) | (go_at_call 23; refine (lenR_any p' g' _ _ hU10.out.two.r).mono ?_; rintro e w11 ⟨rfl, rfl⟩) | (go_at_call 14; refine (taken_any p g _ _ hU10.out.two.l).mono ?_; rintro e w11 ⟨rfl, rfl⟩) | (go_at_call 24; refine (takenR_any p' g' _ _ hU10.out.two.r).mono ?_; rintro e w11 ⟨rfl, rfl⟩))
            go_wp2_with fail
            go_roundw
            case rel => exact ⟨i + 1, by omega, by go_num, M, hU10.out.two⟩
            case measure => simp [intOf]; omega
          · go_wp2_with fail
            go_region_held3 (fun w' => w'.cell? ⟨wr.heap.size, 1, none⟩ = some (.int .i64 k) ∧ w'.cell? ⟨wr.heap.size, 2, none⟩ = some (.int .i64 t)) (exact ⟨by assumption, by assumption⟩)
              (first | (go_at_call 12; refine (free_any p g k t L _ (by first | exact hU.out.two.l | exact hU.out.drew.two.l)).mono ?_; rintro e w6 ⟨rfl, hL6, g6⟩; have hU6 := Lib.hid ((show Thr w _ p g p' g' L L wr.heap.size c k t from by first | exact hU.out | exact hU.out.drew).left hL6 g6); have c6 := hU6.out.c1; have d6 := hU6.out.c2; clear hL6 g6) | (go_at_call 20; refine (freeR_any p' g' k t L _ hU6.out.two.r).mono ?_; rintro e w7 ⟨rfl, hR7, g7⟩; have hU7 := Lib.hid (hU6.out.right hR7 g7); have c7 := hU7.out.c1; have d7 := hU7.out.c2; clear hR7 g7))
            go_wp2_with fail
            generalize hM : freeS L k t = M at *
            have hM := Lib.hid hM
            refine (holder_any p g k _ _ hU7.out.two.l).mono ?_
            rintro e w8 ⟨rfl, rfl⟩
            go_wp2_with fail
            refine (holderR_any p' g' k _ _ hU7.out.two.r).mono ?_
            rintro e w8 ⟨rfl, rfl⟩
            generalize hasV M k = hv at *
            generalize hasB M k = hb at *
            go_wp2_with fail
            go_region_held3 (fun w' => w'.cell? ⟨wr.heap.size, 1, none⟩ = some (.int .i64 k) ∧ w'.cell? ⟨wr.heap.size, 2, none⟩ = some (.int .i64 t)) (exact ⟨by assumption, by assumption⟩)
              (first | (go_at_call 13; refine (held_any p g t _ _ (by first | exact hU7.out.two.l | exact hU7.out.drew.two.l)).mono ?_; rintro e w8 ⟨v8, rfl, o8, b8⟩; have hU8 := Lib.hid ((show Thr w _ p g p' g' M M wr.heap.size c k t from by first | exact hU7.out | exact hU7.out.drew).below b8); have r8 := Lib.hid (RI.of_own o8); have c8 := hU8.out.c1; have d8 := hU8.out.c2; clear o8 b8) | (go_at_call 22; refine (heldR_any p' g' t _ _ hU8.out.two.r).mono ?_; rintro e w9 ⟨v9, rfl, o9, b9⟩; have hU9 := Lib.hid (hU8.out.below b9); have q8 := Lib.hid (r8.out.below b9); have r9 := Lib.hid (RI.of_own o9); have c9 := hU9.out.c1; have d9 := hU9.out.c2; clear o9 b9) | (go_at_call 17; refine (same_true v8 v9 _ _ (Nat.le_trans (heldK_len _ _ _) (Nat.le_trans hU9.out.two.l.len (by decide))) q8.out r9.out).mono ?_; rintro e w10 ⟨rfl, nd, rfl⟩; have hU10 := Lib.hid (hU9.out.drewN nd); have c10 := hU10.out.c1; have d10 := hU10.out.c2) | (go_at_call 16; refine (len_any p g _ _ hU10.out.two.l).mono ?_; rintro e w11 ⟨rfl, rfl⟩) | (go_at_call 23; refine (lenR_any p' g' _ _ hU10.out.two.r).mono ?_; rintro e w11 ⟨rfl, rfl⟩) | (go_at_call 14; refine (taken_any p g _ _ hU10.out.two.l).mono ?_; rintro e w11 ⟨rfl, rfl⟩) | (go_at_call 24; refine (takenR_any p' g' _ _ hU10.out.two.r).mono ?_; rintro e w11 ⟨rfl, rfl⟩))
            go_wp2_with fail
            go_roundw
            case rel => exact ⟨i + 1, by omega, by go_num, M, hU10.out.two⟩
            case measure => simp [intOf]; omega
        · replace hT := Lib.hid hT.out.b
          clear H
          go_wp2_with fail
          go_ret
          exact ⟨rfl, hT.out⟩
end Go.Proofs.Ytidhhadelgdeiaa
