/-
  Contracts and plain laws that the walk leans on, part 5. No condition.
-/
import Derived.Test.YtcnkmhfcgkbhbaaZNm4
import Derived.WalkMore
import Derived.Shelf.Slices.In.SortNone
import Derived.Test.YtcnkmhfcgkbhbaaProg
import Derived.Test.YtcnkmhfcgkbhbaaChecked
import Derived.Shelf.Slices.Reverse
import Derived.Ground.NamesProg
import Derived.Ground.Names2Prog
namespace Go.Proofs.Ytcnkmhfcgkbhbaa
set_option linter.unusedSimpArgs false
set_option linter.unusedVariables false
set_option linter.unnecessarySimpa false
open Go.RowKit
/-- One's neighbours gone through. -/
def nbr (a : Int) (ts : List Int) (bk : List (Int × Int)) : List (Int × Int) := ts.foldl (fun bk t => if hasL bk t then bk else bk ++ [(t, a)]) bk
def rowL (N : List (Int × List Int)) (a : Int) : List Int := ((N.find? fun p => decide (p.1 = a)).map (·.2)).getD []
/-- Nearest ones first: what is known, and who is still to be looked at. -/
def bfs (N : List (Int × List Int)) : Nat → List (Int × Int) → List Int → List (Int × Int)
  | 0, bk, _ => bk
  | _ + 1, bk, [] => bk
  | f + 1, bk, a :: todo => bfs N f (nbr a (rowL N a) bk) (todo ++ ((nbr a (rowL N a) bk).drop bk.length).map (·.1))
theorem bfs_nil (N : List (Int × List Int)) (f : Nat) (bk : List (Int × Int)) : bfs N f bk [] = bk := by cases f <;> rfl
theorem nbr_snoc (a : Int) (ts : List Int) (t : Int) (bk : List (Int × Int)) : nbr a (ts ++ [t]) bk = if hasL (nbr a ts bk) t then nbr a ts bk else nbr a ts bk ++ [(t, a)] := by
  unfold nbr
  rw [List.foldl_append]
  rfl
theorem nbr_len (a : Int) : ∀ (ts : List Int) (bk : List (Int × Int)), bk.length ≤ (nbr a ts bk).length
  | [], _ => Nat.le_refl _
  | t :: ts, bk => by
    have h := nbr_len a ts (if hasL bk t then bk else bk ++ [(t, a)])
    have h2 : bk.length ≤ (if hasL bk t then bk else bk ++ [(t, a)]).length := by
      split
      · exact Nat.le_refl _
      · simp
    exact Nat.le_trans h2 h
/-- What is known: each once, all of them targets. -/
def okB (T : List Int) (bk : List (Int × Int)) : Prop := (bk.map (·.1)).Nodup ∧ ∀ x ∈ bk.map (·.1), x ∈ T
theorem okB_nil (T : List Int) : okB T [] := ⟨by simp, by simp⟩
theorem okB_snoc {T : List Int} {bk : List (Int × Int)} {t a : Int} (h : okB T bk) (ht : t ∈ T) (hf : hasL bk t = false) : okB T (bk ++ [(t, a)]) := by
  have hn : t ∉ bk.map (·.1) := by rw [← hasL_iff, hf]; simp
  refine ⟨?_, fun x hx => ?_⟩
  · rw [List.map_append, List.nodup_append]
    refine ⟨h.1, by simp, fun x hx y hy => ?_⟩
    simp at hy
    subst hy
    rintro rfl
    exact hn hx
  · rw [List.map_append, List.mem_append] at hx
    rcases hx with hx | hx
    · exact h.2 x hx
    · simp at hx; subst hx; exact ht
theorem nodup_len : ∀ (l T : List Int), l.Nodup → (∀ x ∈ l, x ∈ T) → l.length ≤ T.length
  | [], _, _, _ => Nat.zero_le _
  | x :: l, T, hn, hs => by
    rw [List.nodup_cons] at hn
    have hx := hs x (List.mem_cons_self ..)
    have h := nodup_len l (T.erase x) hn.2 fun y hy => (List.mem_erase_of_ne (fun e : _ = x => hn.1 (by rw [← e]; exact hy))).2 (hs y (List.mem_cons_of_mem _ hy))
    rw [List.length_erase_of_mem hx] at h
    have := List.length_pos_of_mem hx
    simp only [List.length_cons]
    omega
theorem okB_len {T : List Int} {bk : List (Int × Int)} (h : okB T bk) : bk.length ≤ T.length := by
  have := nodup_len _ T h.1 h.2
  simpa using this
/-- All targets of some rows. -/
def tgts (N : List (Int × List Int)) : List Int := N.flatMap (·.2)
theorem rowL_tgts {N : List (Int × List Int)} {a t : Int} (h : t ∈ rowL N a) : t ∈ tgts N := by
  unfold rowL at h
  cases hf : N.find? (fun p => decide (p.1 = a)) with
  | none => rw [hf] at h; simp at h
  | some p =>
    rw [hf] at h
    exact List.mem_flatMap.2 ⟨p, List.mem_of_find?_eq_some hf, by simpa using h⟩
theorem rowL_len (a : Int) : ∀ N : List (Int × List Int), (rowL N a).length ≤ (tgts N).length
  | [] => Nat.zero_le _
  | p :: N => by
    have h := rowL_len a N
    have e : tgts (p :: N) = p.2 ++ tgts N := by simp [tgts]
    rw [e, List.length_append]
    unfold rowL at h ⊢
    rw [List.find?_cons]
    cases hd : decide (p.1 = a) with
    | true => simp
    | false => simp only; omega
theorem rows_rl {W : World} : ∀ {R : List Row} {rs : List Res}, Sep W (rowsR R :: rs) → ∀ r ∈ R, RL W r.2.1 1 r.2.2.length (r.2.2.map (Value.int .i64))
  | [], _, _, r, hr => by simp at hr
  | q :: R, rs, h, r, hr => by
    have h2 := Sep.gstar.1 h
    rcases List.mem_cons.1 hr with rfl | hr
    · exact h2.vec_rl
    · exact rows_rl h2.tail r hr
theorem look_rl {W : World} {es : List (Int × Value)} {R : List Row} {rs : List Res} (hS : Sep W (rowsR R :: rs)) (hN : NX es R) (a : Int) :
    RL W (((getL es a).map (id : Value → Value)).getD (.slice none 0 0)) 1 (rowL (rowsP R) a).length ((rowL (rowsP R) a).map (Value.int .i64)) := by
  have hf : (rowsP R).find? (fun p => decide (p.1 = a)) = (rowOf R a).map fun r => (r.1, r.2.2) := by
    unfold rowsP rowOf
    rw [List.find?_map]
    rfl
  rw [hN a]
  unfold rowL
  rw [hf]
  cases hr : rowOf R a with
  | none => exact RL.nil W 1
  | some r => exact rows_rl hS r (List.mem_of_find?_eq_some hr)
theorem und_back : Try.prog.underlying 64 = some (.map 3 3) := by kernel_rfl
theorem zero_int (w : World) : (zeroValue 3).run Try.prog w = .ok (.int .i64 0) w := by kernel_rfl
def bcells (bk : List (Int × Int)) : List Value := bk.map fun p => Value.int .i64 p.1
set_option maxHeartbeats 4000000 in
set_option maxRecDepth 100000 in
theorem ways_any (b : Nat) (es : List (Int × Value)) (R : List Row) (from_ : Int) (w : World) (rs : List Res) (hS : Sep w (mapr ekI (id : Value → Value) b es :: rowsR R :: rs)) (hN : NX es R) (hD : (tgts (rowsP R)).length ≤ 1000) :
    Calls Try.prog 33 #[.map (some b), .int .i64 from_] w fun e w' => ∃ mb a c bk, e = .returned (.tuple #[.map (some mb), .slice a bk.length c]) ∧ (∃ s, ∀ f, bfs (rowsP R) (s + f) [] [from_] = bk) ∧ bk.length ≤ (tgts (rowsP R)).length ∧
      Sep w' (mapr ekI ekI mb bk :: vec 3 1 (.slice a bk.length c) bk.length (bcells bk) :: mapr ekI (id : Value → Value) b es :: rowsR R :: rs) := by
  have hmm := @run_makeMap Try.prog
  obtain ⟨i0, hi0, hz0, hz1, hz2⟩ := info_parts info_int
  have hLK := Lib.hid (fun W rs' (h : Sep W (rowsR R :: rs')) a => look_rl h hN a)
  obtain ⟨N, hNR⟩ : ∃ N, rowsP R = N := ⟨_, rfl⟩
  rw [hNR] at hD
  simp only [hNR] at hLK ⊢
  obtain ⟨T, hT⟩ : ∃ T, Hid (tgts N = T) := ⟨_, rfl⟩
  rw [hT.out] at hD ⊢
  obtain ⟨D, hDT⟩ : ∃ D, Hid (T.length = D) := ⟨_, rfl⟩
  rw [hDT.out] at hD ⊢
  replace hLK := Lib.hid hLK.out
  have hM := Lib.hid (((hS.map_new ekI ekI).alloc #[.int .i64 from_] 3))
  clear hNR hN hS
  go_enter Try.func33, Try.ntmps33
  go_wp2_with fail
  go_step3
  go_wp2_with fail
  clear hmm
  simp only [World.size_alloc] at hM
  have hV0 := Lib.hid ((((hM.out.blk_tl (k := 0) (n := 1) (c := 1) (xs := [.int .i64 from_]) (Nat.le_refl _) (by decide) (by simp) rfl).vec_nil 3 1)).to2)
  clear hM
  have h00 : Hid (∀ f, bfs N (0 + f) [] [from_] = bfs N f [] [from_]) := Lib.hid (fun f => by rw [Nat.zero_add])
  go_step3
  go_wp2_with fail
  generalize w.heap.size + 1 = tb at *
  generalize w.heap.size = mb at *
  go_loopg [5, 6] (2 * D + 1) (fun gm s5 s6 W => ∃ (bk : List (Int × Int)) (td : List Int) (a5 : Option Addr) (c5 g6 k6 c6 : Nat), gm = 2 * (D - bk.length) + td.length ∧ s5 = .slice a5 bk.length c5 ∧ s6 = .slice (some ⟨g6, k6, none⟩) td.length c6 ∧ td.length ≤ bk.length + 1 ∧ Hid (okB T bk) ∧ Hid (∃ s, ∀ f, bfs N (s + f) [] [from_] = bfs N f bk td) ∧ Hid (Sep W (mapr ekI ekI mb bk :: vec 3 1 (.slice a5 bk.length c5) bk.length (bcells bk) :: tl 3 (.slice (some ⟨g6, k6, none⟩) td.length c6) td.length (td.map (Value.int .i64)) :: mapr ekI (id : Value → Value) b es :: rowsR R :: rs)))
  case atStart => exact ⟨[], [from_], none, 0, tb, 0, 1, by simp, rfl, rfl, by simp, Lib.hid (okB_nil T), Lib.hid ⟨0, h00.out⟩, hV0⟩
  case round =>
    clear hV0 h00
    obtain ⟨bk, td, a5, c5, g6, k6, c6, hg, rfl, rfl, htb, hok, hst, hV⟩ := hrel
    cases td with
    | nil =>
      have hfin := Lib.hid (show ∃ s, ∀ f, bfs N (s + f) [] [from_] = bk by obtain ⟨s, h⟩ := hst.out; exact ⟨s, fun f => by rw [h, bfs_nil]⟩)
      have hbl := Lib.hid (show bk.length ≤ D by rw [← hDT.out]; exact okB_len hok.out)
      have h0 : (([] : List Int).length : Int) = 0 := rfl
      clear hst hok
      go_wp2_with fail
      simp only [Exit.noGoto_ret]
      refine bodyPost_ret (v := .tuple #[.map (some mb), .slice a5 bk.length c5]) (by simp [results, Try.results33, go_sem, *]) rfl ⟨mb, a5, c5, bk, rfl, hfin.out, hbl.out, hV.out.drop2⟩
    | cons at_ td =>
      have hz : (((at_ :: td).length : Nat) : Int) = (td.length : Int) + 1 := by simp
      have hne : ¬ ((td.length : Int) + 1 = 0) := by omega
      obtain ⟨z0, hc6, hV2⟩ := (show Sep _ (tl _ (.slice (some ⟨g6, k6, none⟩) (td.length + 1) c6) (td.length + 1) (.int .i64 at_ :: td.map (Value.int .i64)) :: _) from hV.out.to2).tl_head
      replace hV2 := Lib.hid hV2
      have hc62 : c6 = 1 → td.length = 0 := by omega
      by_cases hc1 : c6 = 1
      · subst hc1
        obtain rfl := List.eq_nil_of_length_eq_zero (hc62 rfl)
        have hV3 := Lib.hid (show Sep wr (tl 3 (.slice (some ⟨g6, k6, none⟩) 0 0) 0 [] :: mapr ekI ekI mb bk :: vec 3 1 (.slice a5 bk.length c5) bk.length (bcells bk) :: mapr ekI (id : Value → Value) b es :: rowsR R :: rs) by
          obtain ⟨g', k', c', cur, hv, hB, a1, a2, a3, a4, a5'⟩ := hV2.out.tl_blk
          injection hv with e1 e2 e3
          injection e1 with e1
          injection e1 with e1 e1'
          subst e1 e1' e3
          exact hB.blk_tl (by omega) (by decide) (by omega) rfl)
        clear hV hV2
        obtain ⟨X, hX⟩ : ∃ X, Hid (rowL N at_ = X) := ⟨_, rfl⟩
        have hrl := Lib.hid (fun W rs' (h : Sep W (rowsR R :: rs')) => hLK.out W rs' h at_)
        simp only [hX.out] at hrl
        obtain ⟨_, ra, rc, hrv, _⟩ := hrl.out _ _ (hV3.out.bring 4 rfl)
        obtain ⟨m, hm⟩ : ∃ m, Hid (X.length = m) := ⟨_, rfl⟩
        have hmD : m ≤ D := by rw [← hm.out, ← hX.out, ← hDT.out, ← hT.out]; exact rowL_len at_ N
        rw [hm.out] at hrv
        simp only [hrv, hm.out] at hrl
        replace hrv := Lib.hid hrv
        replace hrl := Lib.hid hrl.out
        clear hc6 hc62
        go_wp2_with (at_lookup; refine wpList_lookup_map hV3.out.to3 lawI und_nx rfl (.tmp 23) (.tmp 24) false rfl (zero_ints _) rfl at_ rfl ?_; rw [if_neg (by simp), hrv.out])
        clear z0
        obtain ⟨td0, htd0⟩ : ∃ t : List Int, Hid (t = []) := ⟨_, rfl⟩
        have htl := Lib.hid (show td0.length ≤ bk.length by rw [htd0.out]; simp only [List.length_cons, List.length_nil] at htb ⊢; omega)
        have htl3 := Lib.hid (show td0.length < (at_ :: []).length by rw [htd0.out]; simp)
        go_loopg [5, 6, 27] m (fun gm s5 s6 s27 W => ∃ (j : Nat) (bk2 : List (Int × Int)) (td2 : List Int) (a5 : Option Addr) (c5 g6 k6 c6 : Nat), j ≤ m ∧ gm = m - j ∧ s5 = .slice a5 bk2.length c5 ∧ s6 = .slice (some ⟨g6, k6, none⟩) td2.length c6 ∧ s27 = .int .i64 j ∧ Hid (bk2 = nbr at_ (X.take j) bk) ∧ Hid (okB T bk2) ∧ Hid (td2 = td0 ++ (bk2.drop bk.length).map (·.1)) ∧ Hid (Sep W (tl 3 (.slice (some ⟨g6, k6, none⟩) td2.length c6) td2.length (td2.map (Value.int .i64)) :: mapr ekI ekI mb bk2 :: vec 3 1 (.slice a5 bk2.length c5) bk2.length (bcells bk2) :: mapr ekI (id : Value → Value) b es :: rowsR R :: rs)))
        case atStart => exact ⟨0, bk, [], a5, c5, g6, k6, 0, Nat.zero_le _, rfl, rfl, rfl, rfl, Lib.hid rfl, hok, Lib.hid (by rw [htd0.out]; simp), hV3⟩
        case round =>
          clear hV3
          obtain ⟨j, bk2, td2, a5, c5, g6, k6, c6, hj, hg2, rfl, rfl, rfl, hb2, hok2, htd2, hV⟩ := hrel
          by_cases hlt : j < m
          · obtain ⟨t, ht⟩ : ∃ t, X[j]? = some t := ⟨X[j]'(by rw [hm.out]; exact hlt), List.getElem?_eq_getElem _⟩
            obtain ⟨_, ra', rc', hre, _, _, hr⟩ := hrl.out _ _ (hV.out.bring 4 rfl)
            obtain ⟨rb, roff, hra, _, zz⟩ := hr (by omega)
            injection hre with e1 _ e3
            subst e1 e3 hra
            have z0 := zz j (.int .i64 t) (by rw [List.getElem?_map, ht]; rfl)
            clear zz hr
            have htT := Lib.hid (show t ∈ T by rw [← hT.out]; exact rowL_tgts (a := at_) (by rw [hX.out]; exact List.mem_of_getElem? ht))
            have hsn := Lib.hid (show nbr at_ (X.take (j + 1)) bk = if hasL bk2 t then bk2 else bk2 ++ [(t, at_)] by rw [List.take_add_one, ht, Option.toList_some, nbr_snoc, ← hb2.out])
            have i1 : (0 : Int) ≤ (j : Int) := by omega
            have i2 : (j : Int) < (m : Int) := by omega
            replace ht := Lib.hid ht
            cases hh : hasL bk2 t with
            | true =>
              rw [hh, if_pos rfl] at hsn
              generalize hlv : ((getL bk2 t).map ekI).getD (.int .i64 0) = lv at *
              go_wp2_with (at_lookup; refine wpList_lookup_map hV.out.to1 lawI und_back rfl (.tmp 32) (.tmp 33) true rfl (zero_int _) rfl t rfl ?_; rw [if_pos rfl, hh, hlv])
              go_roundg (m - (j + 1))
              case measure => omega
              case rel => exact ⟨j + 1, bk2, td2, a5, c5, g6, k6, c6, by omega, rfl, rfl, rfl, by go_num, Lib.hid (by rw [hsn.out]), hok2, htd2, hV⟩
            | false =>
              rw [hh, if_neg (by simp)] at hsn
              have hok3 := Lib.hid (okB_snoc (a := at_) hok2.out htT.out hh)
              have hbl := Lib.hid (show bk2.length + 1 ≤ D by have h := okB_len hok3.out; rw [hDT.out] at h; simpa using h)
              have hput : putL bk2 t at_ = bk2 ++ [(t, at_)] := by unfold putL; rw [hh]; rfl
              have h1u : (Value.int .i64 t).oneCell' = true := rfl
              have h1c : Hid (∀ u ∈ ([.int .i64 t] : List Value), u.oneCell' = true) := Lib.hid (by simp [Value.oneCell'])
              generalize hlv : ((getL bk2 t).map ekI).getD (.int .i64 0) = lv at *
              have hl1 := Lib.hid (show bk.length ≤ bk2.length by rw [hb2.out]; exact nbr_len _ _ _)
              have htl2 := Lib.hid (show td2.length ≤ bk2.length by
                rw [htd2.out, List.length_append, List.length_map, List.length_drop]
                have h1 := htl.out
                have h2 := hl1.out
                omega)
              go_wp2_with (first | (at_lookup; refine wpList_lookup_map hV.out.to1 lawI und_back rfl (.tmp 32) (.tmp 33) true rfl (zero_int _) rfl t rfl ?_; rw [if_pos rfl, hh, hlv]) | (at_mapUpdate; refine wpList_mapUpdate_map hV.out.to1 lawI und_back rfl (.tmp 38) (.tmp 39) (.tmp 40) rfl rfl t at_ rfl rfl ?_; intro w3 q; rw [hput] at q; replace q := Lib.hid q) | (at_builtin; refine wpList_append_tl (q2.out.to2.allocG _) rfl _ _ 30 rfl i0 _ 8 Try.underlying30 hi0 hz0 hz1 hz2 rfl rfl (.int .i64 t) (SrcA.one _ _ _ _) h1u (by have := hbl.out; have := htl2.out; simp only [maxLen]; omega) (by have := hbl.out; have := htl2.out; omega) ?_; intro ga gc w5 q3; replace q3 := Lib.hid q3) | (at_builtin; refine wpList_append_sep (q.out.to2.allocG _) rfl _ _ 30 rfl i0 _ 8 Try.underlying30 hi0 hz0 hz1 hz2 rfl (by decide) rfl 1 [.int .i64 t] (SrcA.one _ _ _ _) h1c.out (by have := hbl.out; simp only [maxLen]; omega) (by have := hbl.out; omega) ?_; intro oa' oc' w4 q2; replace q2 := Lib.hid q2))
              obtain ⟨g9, k9, c9, _, hv9, _⟩ := q3.out.tl_blk
              injection hv9 with e1 _ e3
              injection e1 with e1
              subst e1 e3
              go_roundg (m - (j + 1))
              case measure => omega
              case rel =>
                refine ⟨j + 1, bk2 ++ [(t, at_)], td2 ++ [t], oa', oc', g9, k9, gc, by omega, rfl, by simp, by simp, by go_num, Lib.hid (by rw [hsn.out]), hok3, Lib.hid ?_, Lib.hid ?_⟩
                · rw [htd2.out, List.drop_append_of_le_length hl1.out, List.map_append, List.append_assoc]
                  rfl
                · have h := q3.out.to2.to1
                  simp only [List.length_append, List.length_cons, List.length_nil, Nat.zero_add, List.map_append, List.map_cons, List.map_nil, bcells] at h ⊢
                  exact h
          · have hjm : j = m := by omega
            subst hjm
            rw [show X.take j = X by rw [← hm.out, List.take_length]] at hb2
            have hl1 := Lib.hid (show bk.length ≤ bk2.length by rw [hb2.out]; exact nbr_len _ _ _)
            have hl2 := Lib.hid (show td2.length = td0.length + (bk2.length - bk.length) by rw [htd2.out, List.length_append, List.length_map, List.length_drop])
            have hl3 := Lib.hid (show bk2.length ≤ D by rw [← hDT.out]; exact okB_len hok2.out)
            have hst2 := Lib.hid (show ∃ s, ∀ f, bfs N (s + f) [] [from_] = bfs N f bk2 td2 by
              obtain ⟨s, h⟩ := hst.out
              refine ⟨s + 1, fun f => ?_⟩
              rw [show s + 1 + f = s + (f + 1) by omega, h, htd2.out, htd0.out, hb2.out, ← hX.out]
              rfl)
            go_wp2_with fail
            go_roundg (2 * (D - bk2.length) + td2.length)
            case measure =>
              have h1 := hl1.out
              have h2 := hl2.out
              have h3 := hl3.out
              have h4 := htl3.out
              omega
            case rel => exact ⟨bk2, td2, a5, c5, g6, k6, c6, rfl, rfl, rfl, by have h1 := hl1.out; have h2 := hl2.out; have h4 := htl.out; omega, hok2, hst2, Lib.hid hV.out.to2.to2⟩
      · have hV3 := hV2
        clear hV hV2
        obtain ⟨X, hX⟩ : ∃ X, Hid (rowL N at_ = X) := ⟨_, rfl⟩
        have hrl := Lib.hid (fun W rs' (h : Sep W (rowsR R :: rs')) => hLK.out W rs' h at_)
        simp only [hX.out] at hrl
        obtain ⟨_, ra, rc, hrv, _⟩ := hrl.out _ _ (hV3.out.bring 4 rfl)
        obtain ⟨m, hm⟩ : ∃ m, Hid (X.length = m) := ⟨_, rfl⟩
        have hmD : m ≤ D := by rw [← hm.out, ← hX.out, ← hDT.out, ← hT.out]; exact rowL_len at_ N
        rw [hm.out] at hrv
        simp only [hrv, hm.out] at hrl
        replace hrv := Lib.hid hrv
        replace hrl := Lib.hid hrl.out
        clear hc6 hc62
        go_wp2_with (at_lookup; refine wpList_lookup_map hV3.out.to3 lawI und_nx rfl (.tmp 23) (.tmp 24) false rfl (zero_ints _) rfl at_ rfl ?_; rw [if_neg (by simp), hrv.out])
        clear z0
        obtain ⟨td0, htd0⟩ : ∃ t, Hid (t = td) := ⟨_, rfl⟩
        have htl := Lib.hid (show td0.length ≤ bk.length by rw [htd0.out]; simp only [List.length_cons, List.length_nil] at htb ⊢; omega)
        have htl3 := Lib.hid (show td0.length < (at_ :: td).length by rw [htd0.out]; simp)
        go_loopg [5, 6, 27] m (fun gm s5 s6 s27 W => ∃ (j : Nat) (bk2 : List (Int × Int)) (td2 : List Int) (a5 : Option Addr) (c5 g6 k6 c6 : Nat), j ≤ m ∧ gm = m - j ∧ s5 = .slice a5 bk2.length c5 ∧ s6 = .slice (some ⟨g6, k6, none⟩) td2.length c6 ∧ s27 = .int .i64 j ∧ Hid (bk2 = nbr at_ (X.take j) bk) ∧ Hid (okB T bk2) ∧ Hid (td2 = td0 ++ (bk2.drop bk.length).map (·.1)) ∧ Hid (Sep W (tl 3 (.slice (some ⟨g6, k6, none⟩) td2.length c6) td2.length (td2.map (Value.int .i64)) :: mapr ekI ekI mb bk2 :: vec 3 1 (.slice a5 bk2.length c5) bk2.length (bcells bk2) :: mapr ekI (id : Value → Value) b es :: rowsR R :: rs)))
        case atStart => exact ⟨0, bk, td, a5, c5, g6, (k6 + 1), (c6 - 1), Nat.zero_le _, rfl, rfl, rfl, rfl, Lib.hid rfl, hok, Lib.hid (by rw [htd0.out]; simp), hV3⟩
        case round =>
          clear hV3
          obtain ⟨j, bk2, td2, a5, c5, g6, k6, c6, hj, hg2, rfl, rfl, rfl, hb2, hok2, htd2, hV⟩ := hrel
          by_cases hlt : j < m
          · obtain ⟨t, ht⟩ : ∃ t, X[j]? = some t := ⟨X[j]'(by rw [hm.out]; exact hlt), List.getElem?_eq_getElem _⟩
            obtain ⟨_, ra', rc', hre, _, _, hr⟩ := hrl.out _ _ (hV.out.bring 4 rfl)
            obtain ⟨rb, roff, hra, _, zz⟩ := hr (by omega)
            injection hre with e1 _ e3
            subst e1 e3 hra
            have z0 := zz j (.int .i64 t) (by rw [List.getElem?_map, ht]; rfl)
            clear zz hr
            have htT := Lib.hid (show t ∈ T by rw [← hT.out]; exact rowL_tgts (a := at_) (by rw [hX.out]; exact List.mem_of_getElem? ht))
            have hsn := Lib.hid (show nbr at_ (X.take (j + 1)) bk = if hasL bk2 t then bk2 else bk2 ++ [(t, at_)] by rw [List.take_add_one, ht, Option.toList_some, nbr_snoc, ← hb2.out])
            have i1 : (0 : Int) ≤ (j : Int) := by omega
            have i2 : (j : Int) < (m : Int) := by omega
            replace ht := Lib.hid ht
            cases hh : hasL bk2 t with
            | true =>
              rw [hh, if_pos rfl] at hsn
              generalize hlv : ((getL bk2 t).map ekI).getD (.int .i64 0) = lv at *
              go_wp2_with (at_lookup; refine wpList_lookup_map hV.out.to1 lawI und_back rfl (.tmp 32) (.tmp 33) true rfl (zero_int _) rfl t rfl ?_; rw [if_pos rfl, hh, hlv])
              go_roundg (m - (j + 1))
              case measure => omega
              case rel => exact ⟨j + 1, bk2, td2, a5, c5, g6, k6, c6, by omega, rfl, rfl, rfl, by go_num, Lib.hid (by rw [hsn.out]), hok2, htd2, hV⟩
            | false =>
              rw [hh, if_neg (by simp)] at hsn
              have hok3 := Lib.hid (okB_snoc (a := at_) hok2.out htT.out hh)
              have hbl := Lib.hid (show bk2.length + 1 ≤ D by have h := okB_len hok3.out; rw [hDT.out] at h; simpa using h)
              have hput : putL bk2 t at_ = bk2 ++ [(t, at_)] := by unfold putL; rw [hh]; rfl
              have h1u : (Value.int .i64 t).oneCell' = true := rfl
              have h1c : Hid (∀ u ∈ ([.int .i64 t] : List Value), u.oneCell' = true) := Lib.hid (by simp [Value.oneCell'])
              generalize hlv : ((getL bk2 t).map ekI).getD (.int .i64 0) = lv at *
              have hl1 := Lib.hid (show bk.length ≤ bk2.length by rw [hb2.out]; exact nbr_len _ _ _)
              have htl2 := Lib.hid (show td2.length ≤ bk2.length by
                rw [htd2.out, List.length_append, List.length_map, List.length_drop]
                have h1 := htl.out
                have h2 := hl1.out
                omega)
              go_wp2_with (first | (at_lookup; refine wpList_lookup_map hV.out.to1 lawI und_back rfl (.tmp 32) (.tmp 33) true rfl (zero_int _) rfl t rfl ?_; rw [if_pos rfl, hh, hlv]) | (at_mapUpdate; refine wpList_mapUpdate_map hV.out.to1 lawI und_back rfl (.tmp 38) (.tmp 39) (.tmp 40) rfl rfl t at_ rfl rfl ?_; intro w3 q; rw [hput] at q; replace q := Lib.hid q) | (at_builtin; refine wpList_append_tl (q2.out.to2.allocG _) rfl _ _ 30 rfl i0 _ 8 Try.underlying30 hi0 hz0 hz1 hz2 rfl rfl (.int .i64 t) (SrcA.one _ _ _ _) h1u (by have := hbl.out; have := htl2.out; simp only [maxLen]; omega) (by have := hbl.out; have := htl2.out; omega) ?_; intro ga gc w5 q3; replace q3 := Lib.hid q3) | (at_builtin; refine wpList_append_sep (q.out.to2.allocG _) rfl _ _ 30 rfl i0 _ 8 Try.underlying30 hi0 hz0 hz1 hz2 rfl (by decide) rfl 1 [.int .i64 t] (SrcA.one _ _ _ _) h1c.out (by have := hbl.out; simp only [maxLen]; omega) (by have := hbl.out; omega) ?_; intro oa' oc' w4 q2; replace q2 := Lib.hid q2))
              obtain ⟨g9, k9, c9, _, hv9, _⟩ := q3.out.tl_blk
              injection hv9 with e1 _ e3
              injection e1 with e1
              subst e1 e3
              go_roundg (m - (j + 1))
              case measure => omega
              case rel =>
                refine ⟨j + 1, bk2 ++ [(t, at_)], td2 ++ [t], oa', oc', g9, k9, gc, by omega, rfl, by simp, by simp, by go_num, Lib.hid (by rw [hsn.out]), hok3, Lib.hid ?_, Lib.hid ?_⟩
                · rw [htd2.out, List.drop_append_of_le_length hl1.out, List.map_append, List.append_assoc]
                  rfl
                · have h := q3.out.to2.to1
                  simp only [List.length_append, List.length_cons, List.length_nil, Nat.zero_add, List.map_append, List.map_cons, List.map_nil, bcells] at h ⊢
                  exact h
          · have hjm : j = m := by omega
            subst hjm
            rw [show X.take j = X by rw [← hm.out, List.take_length]] at hb2
            have hl1 := Lib.hid (show bk.length ≤ bk2.length by rw [hb2.out]; exact nbr_len _ _ _)
            have hl2 := Lib.hid (show td2.length = td0.length + (bk2.length - bk.length) by rw [htd2.out, List.length_append, List.length_map, List.length_drop])
            have hl3 := Lib.hid (show bk2.length ≤ D by rw [← hDT.out]; exact okB_len hok2.out)
            have hst2 := Lib.hid (show ∃ s, ∀ f, bfs N (s + f) [] [from_] = bfs N f bk2 td2 by
              obtain ⟨s, h⟩ := hst.out
              refine ⟨s + 1, fun f => ?_⟩
              rw [show s + 1 + f = s + (f + 1) by omega, h, htd2.out, htd0.out, hb2.out, ← hX.out]
              rfl)
            go_wp2_with fail
            go_roundg (2 * (D - bk2.length) + td2.length)
            case measure =>
              have h1 := hl1.out
              have h2 := hl2.out
              have h3 := hl3.out
              have h4 := htl3.out
              omega
            case rel => exact ⟨bk2, td2, a5, c5, g6, k6, c6, rfl, rfl, rfl, by have h1 := hl1.out; have h2 := hl2.out; have h4 := htl.out; omega, hok2, hst2, Lib.hid hV.out.to2.to2⟩
end Go.Proofs.Ytcnkmhfcgkbhbaa
namespace Go.Proofs.Ytcnkmhfcgkbhbaa
set_option linter.unusedSimpArgs false
set_option linter.unusedVariables false
set_option linter.unnecessarySimpa false
open Go.RowKit
def onE (txn : Int) (e : Ed) : Bool := e.from_ == txn || e.tgt == txn
set_option maxHeartbeats 4000000 in
theorem pred_wo (tb : Nat) (txn : Int) (rs : List Res) : PredC_ed 38 #[.pointer (some ⟨tb, 0, none⟩)] (onE txn) (blk tb 3 #[.int .i64 txn] :: rs) := by
  intro W r hS
  obtain ⟨fr, tgt⟩ := r
  have hB := Lib.hid (hS.alloc #[.int .i64 fr, .int .i64 tgt] 41)
  have hBel := Lib.hid (((Sep.start W).alloc #[.int .i64 fr, .int .i64 tgt] 41).tail.gold)
  obtain ⟨_, c0, c1, _⟩ := hB.out.b2
  obtain ⟨_, d0, _⟩ := hB.out.to1.b1
  clear hS hB
  unfold val_ed onE
  simp only
  cases h1 : fr == txn with
  | true =>
    go_enter Try.func38, Try.ntmps38
    go_wp2_with fail
    go_ret
    exact ⟨rfl, hBel.out⟩
  | false =>
    go_enter Try.func38, Try.ntmps38
    go_wp2_with fail
    go_ret
    exact ⟨by simp, hBel.out⟩
set_option maxHeartbeats 4000000 in
theorem without_any (v : Value) (L : List Ed) (txn : Int) (w : World) (hv : RL w v 2 L.length (L.flatMap Ed.cells)) (hl : L.length ≤ 1000) :
    Calls Try.prog 19 #[v, .int .i64 txn] w fun e w' => ∃ a c, e = .returned (.slice a (keepL (onE txn) L).length c) ∧ Sep w' [vec 41 2 (.slice a (keepL (onE txn) L).length c) (keepL (onE txn) L).length ((keepL (onE txn) L).flatMap Ed.cells), old w] := by
  have HC := Lib.hid (fun W h => clone_ed v L W h (by omega))
  have h0 := Lib.hid ((Sep.start w).alloc #[.int .i64 txn] 3)
  replace hv := Lib.hid hv
  go_enter Try.func19, Try.ntmps19
  go_wp2_with fail
  refine (HC.out _ (hv.out.below h0.out.tail.gold)).mono ?_
  rintro e w1 ⟨a, c, rfl, q⟩
  have hV := Lib.hid (q.graft h0.out)
  clear q h0 HC hv
  generalize w.heap.size = tb at *
  go_wp2_with fail
  refine (deleteFunc_ed a L.length c L _ _ (onE txn) w1 _ hV.out rfl hl (pred_wo tb txn [old w]) (fun args w => by kernel_rfl)).mono ?_
  rintro e w2 ⟨rfl, q⟩
  replace q := Lib.hid q
  clear hV
  go_wp2_with fail
  go_ret
  exact ⟨a, c, rfl, q.out.drop1⟩
end Go.Proofs.Ytcnkmhfcgkbhbaa
namespace Go.Proofs.Ytcnkmhfcgkbhbaa
set_option linter.unusedSimpArgs false
set_option linter.unusedVariables false
set_option linter.unnecessarySimpa false
open Go.RowKit
theorem tgts_addE (R : List (Int × List Int)) (e : Ed) : (tgts (addE R e)).length = (tgts R).length + 1 := by
  unfold addE
  split
  · simp [tgts]
  · split
    · simp [tgts] <;> omega
    · simp [tgts] <;> omega
theorem tgts_fold : ∀ (S : List Ed) (R : List (Int × List Int)), (tgts (S.foldl addE R)).length = (tgts R).length + S.length
  | [], R => by simp
  | e :: S, R => by
    rw [List.foldl_cons, tgts_fold S, tgts_addE]
    simp only [List.length_cons]
    omega
theorem tgts_nx (L : List Ed) : (tgts (nxL L)).length ≤ L.length := by
  unfold nxL
  rw [tgts_fold]
  have := sdE_len L
  simp only [tgts, List.flatMap_nil, List.length_nil]
  omega
def srI (xs : List Int) : List Int := xs.mergeSort fun x y => decide (x ≤ y)
theorem srI_len (xs : List Int) : (srI xs).length = xs.length := (List.mergeSort_perm xs _).length_eq
theorem sortI_any (a : Option Addr) (n c : Nat) (xs : List Int) (w : World) (rs : List Res) (hS : Sep w (vec 3 1 (.slice a n c) n (xs.map (Value.int .i64)) :: rs)) (hl : xs.length = n) (hn : n ≤ 1000000) :
    Calls Try.prog 35 #[.slice a n c] w fun e w' => e = .returned (.tuple #[]) ∧ Sep w' (vec 3 1 (.slice a n c) n ((srI xs).map (Value.int .i64)) :: rs) := by
  by_cases h0 : 0 < n
  · exact sortPlain_any a n c xs w rs hS hl h0 hn
  · obtain rfl : n = 0 := by omega
    obtain rfl := List.eq_nil_of_length_eq_zero hl
    refine Calls.mono (show Calls Try.prog 35 _ w _ from Any.slices_Sort_int_none Try.sortPlain a c w) ?_
    rintro e w' ⟨rfl, rfl⟩
    exact ⟨rfl, by simpa [srI] using hS⟩
set_option maxHeartbeats 4000000 in
theorem reach_any (v : Value) (L : List Ed) (from_ : Int) (w : World) (hv : RL w v 2 L.length (L.flatMap Ed.cells)) (hl : L.length ≤ 1000) :
    Calls Try.prog 15 #[v, .int .i64 from_] w fun e w' => ∃ a c bk, e = .returned (.slice a bk.length c) ∧ (∃ s, ∀ f, bfs (nxL L) (s + f) [] [from_] = bk) ∧ bk.length ≤ L.length ∧
      Sep w' [vec 3 1 (.slice a bk.length c) bk.length ((srI (bk.map (·.1))).map (Value.int .i64)), old w] := by
  have HN := Lib.hid (nexts_any v L w hv hl)
  have htg := tgts_nx L
  clear hv
  go_enter Try.func15, Try.ntmps15
  go_wp2_with fail
  refine HN.out.mono ?_
  rintro e w1 ⟨b, es, R, rfl, hR, hN, hV⟩
  have HW := Lib.hid (ways_any b es R from_ w1 [old w] hV hN (by rw [hR]; omega))
  rw [hR] at HW
  clear HN hN hV hR
  go_wp2_with fail
  refine HW.out.mono ?_
  rintro e w2 ⟨mb, a, c, bk, rfl, hb, hbl, hV⟩
  rw [show bcells bk = (bk.map (·.1)).map (Value.int .i64) by simp [bcells]] at hV
  have HS := Lib.hid (sortI_any a bk.length c (bk.map (·.1)) w2 _ hV.to1 (by simp) (by omega))
  replace hb := Lib.hid hb
  clear HW hV
  go_wp2_with fail
  refine HS.out.mono ?_
  rintro e w3 ⟨rfl, hV⟩
  replace hV := Lib.hid hV
  clear HS
  go_wp2_with fail
  go_ret
  exact ⟨a, c, bk, rfl, hb.out, by omega, hV.out.drop1.drop1.drop1⟩
end Go.Proofs.Ytcnkmhfcgkbhbaa
namespace Go.Proofs.Ytcnkmhfcgkbhbaa
set_option linter.unusedSimpArgs false
set_option linter.unusedVariables false
set_option linter.unnecessarySimpa false
open Go.RowKit
/-- Whom one was come to from is the start, or was come to before. -/
def trOK (fr : Int) (bk : List (Int × Int)) : Prop := ∀ l1 p l2, bk = l1 ++ p :: l2 → p.2 = fr ∨ p.2 ∈ l1.map (·.1)
theorem trOK_nil (fr : Int) : trOK fr [] := fun l1 p l2 h => by simp at h
theorem trOK_snoc {fr t a : Int} {bk : List (Int × Int)} (h : trOK fr bk) (ha : a = fr ∨ a ∈ bk.map (·.1)) : trOK fr (bk ++ [(t, a)]) := by
  intro l1 p l2 e
  rcases List.eq_nil_or_concat l2 with rfl | ⟨l3, q, rfl⟩
  · have e2 := List.append_inj' e rfl
    obtain ⟨rfl, e3⟩ := e2
    injection e3 with e3
    subst e3
    exact ha
  · rw [List.concat_eq_append, ← List.cons_append, ← List.append_assoc] at e
    have e2 := List.append_inj' e rfl
    exact h l1 p l3 e2.1
theorem nbr_keys (a : Int) : ∀ (ts : List Int) (bk : List (Int × Int)), ∃ ex, nbr a ts bk = bk ++ ex
  | [], bk => ⟨[], by simp [nbr]⟩
  | t :: ts, bk => by
    obtain ⟨ex, h⟩ := nbr_keys a ts (if hasL bk t then bk else bk ++ [(t, a)])
    have e : nbr a (t :: ts) bk = nbr a ts (if hasL bk t then bk else bk ++ [(t, a)]) := rfl
    rw [e, h]
    split
    · exact ⟨ex, rfl⟩
    · exact ⟨(t, a) :: ex, by simp⟩
theorem nbr_tr {fr a : Int} : ∀ (ts : List Int) (bk : List (Int × Int)), trOK fr bk → (a = fr ∨ a ∈ bk.map (·.1)) → trOK fr (nbr a ts bk)
  | [], _, h, _ => h
  | t :: ts, bk, h, ha => by
    have e : nbr a (t :: ts) bk = nbr a ts (if hasL bk t then bk else bk ++ [(t, a)]) := rfl
    rw [e]
    split
    · exact nbr_tr ts bk h ha
    · exact nbr_tr ts _ (trOK_snoc h ha) (ha.imp id fun h => by rw [List.map_append]; exact List.mem_append_left _ h)
theorem bfs_tr (N : List (Int × List Int)) (fr : Int) : ∀ (f : Nat) (bk : List (Int × Int)) (td : List Int), trOK fr bk → (∀ x ∈ td, x = fr ∨ x ∈ bk.map (·.1)) → trOK fr (bfs N f bk td)
  | 0, _, _, h, _ => h
  | _ + 1, _, [], h, _ => h
  | f + 1, bk, a :: td, h, ht => by
    have e : bfs N (f + 1) bk (a :: td) = bfs N f (nbr a (rowL N a) bk) (td ++ ((nbr a (rowL N a) bk).drop bk.length).map (·.1)) := rfl
    rw [e]
    refine bfs_tr N fr f _ _ (nbr_tr _ _ h (ht a (List.mem_cons_self ..))) fun x hx => ?_
    obtain ⟨ex, he⟩ := nbr_keys a (rowL N a) bk
    rw [he] at hx ⊢
    rw [List.drop_left] at hx
    rw [List.map_append, List.mem_append]
    rcases List.mem_append.1 hx with hx | hx
    · exact (ht x (List.mem_cons_of_mem _ hx)).imp id .inl
    · exact .inr (.inr hx)
/-- What ways tells is a tree. -/
theorem ways_tr {N : List (Int × List Int)} {fr : Int} {bk : List (Int × Int)} (h : ∃ s, ∀ f, bfs N (s + f) [] [fr] = bk) : trOK fr bk := by
  obtain ⟨s, hs⟩ := h
  rw [← hs 0]
  exact bfs_tr N fr _ [] [fr] (trOK_nil fr) (fun x hx => .inl (by simpa using hx))
/-- ways tells one thing only. -/
theorem ways_uniq {N : List (Int × List Int)} {fr : Int} {bk bk' : List (Int × Int)} (h : ∃ s, ∀ f, bfs N (s + f) [] [fr] = bk) (h' : ∃ s, ∀ f, bfs N (s + f) [] [fr] = bk') : bk = bk' := by
  obtain ⟨s, hs⟩ := h
  obtain ⟨t, ht⟩ := h'
  rw [← hs t, ← ht s, Nat.add_comm]
theorem nbr_okB {T : List Int} (a : Int) : ∀ (ts : List Int) (bk : List (Int × Int)), okB T bk → (∀ t ∈ ts, t ∈ T) → okB T (nbr a ts bk)
  | [], _, h, _ => h
  | t :: ts, bk, h, ht => by
    have e : nbr a (t :: ts) bk = nbr a ts (if hasL bk t then bk else bk ++ [(t, a)]) := rfl
    rw [e]
    cases hh : hasL bk t with
    | true => rw [if_pos rfl]; exact nbr_okB a ts bk h fun x hx => ht x (List.mem_cons_of_mem _ hx)
    | false => rw [if_neg (by simp)]; exact nbr_okB a ts _ (okB_snoc h (ht t (List.mem_cons_self ..)) hh) fun x hx => ht x (List.mem_cons_of_mem _ hx)
/-- Whom one reaches. -/
inductive Rd (N : List (Int × List Int)) (fr : Int) : Int → Prop
  | one {t : Int} : t ∈ rowL N fr → Rd N fr t
  | more {x t : Int} : Rd N fr x → t ∈ rowL N x → Rd N fr t
end Go.Proofs.Ytcnkmhfcgkbhbaa
namespace Go.Proofs
open Go.Shelf
def Try.reverseI_ren : Go.Shelf.Ren := ⟨fun | 112 => 34 | n => n, fun | 28 => 30 | 3 => 3 | 4 => 4 | 0 => 0 | n => n, fun | n => n⟩
theorem Try.reverseI : Go.Proofs.Lays.n112 Try.prog Try.reverseI_ren := {
  mixed := by kernel_rfl
  f112 := Try.func34.trans (congrArg some (by kernel_rfl))
  t0 := Try.underlying0
  a0 := Try.isAgg0
  z0 := Try.sizeOf0
  v0 := Try.zeroValue0
  t3 := Try.underlying3
  a3 := Try.isAgg3
  z3 := Try.sizeOf3
  v3 := Try.zeroValue3
  t4 := Try.underlying4
  a4 := Try.isAgg4
  z4 := Try.sizeOf4
  v4 := Try.zeroValue4
  t28 := Try.underlying30
  a28 := Try.isAgg30
  z28 := Try.sizeOf30
  v28 := Try.zeroValue30 }
end Go.Proofs
namespace Go.Proofs.Ytcnkmhfcgkbhbaa
set_option linter.unusedSimpArgs false
set_option linter.unusedVariables false
set_option linter.unnecessarySimpa false
open Go.RowKit
theorem revI_any (a : Option Addr) (n c : Nat) (xs : List Int) (w : World) (rs : List Res) (hS : Sep w (vec 3 1 (.slice a n c) n (xs.map (Value.int .i64)) :: rs)) (hl : xs.length = n) (h0 : 0 < n) (hn : n ≤ 1000000) :
    Calls Try.prog 34 #[.slice a n c] w fun e w' => e = .returned (.tuple #[]) ∧ Sep w' (vec 3 1 (.slice a n c) n (xs.reverse.map (Value.int .i64)) :: rs) := by
  obtain ⟨g, rfl⟩ : ∃ g, a = some ⟨g, 0, none⟩ := by
    rcases hS.gvec.2 with ⟨_, h1⟩ | ⟨g, cap, cur, hv, _⟩
    · omega
    · injection hv with e1 _ _
      exact ⟨g, e1⟩
  obtain ⟨hH, hg⟩ := hS.vec_holds1 (Value.int .i64) xs hl
  have hcon := Any.slices_Reverse_int Try.reverseI g 0 c xs w hH (by omega)
  rw [hl] at hcon
  refine Calls.mono (show Calls Try.prog 34 _ w _ from hcon) ?_
  rintro e w' ⟨rfl, m, rfl⟩
  refine ⟨rfl, ?_⟩
  have := hS.vec_row (Value.int .i64) m xs.reverse.toArray #[] (by simpa using hl)
  simpa using this
end Go.Proofs.Ytcnkmhfcgkbhbaa
namespace Go.Proofs.Ytcnkmhfcgkbhbaa
set_option linter.unusedSimpArgs false
set_option linter.unusedVariables false
set_option linter.unnecessarySimpa false
open Go.RowKit
abbrev Rw := List (Int × List Int)
abbrev Bk := List (Int × Int)
/-- The search as steps. -/
inductive Bfs (N : Rw) : Bk → List Int → Bk → Prop
  | nil {bk : Bk} : Bfs N bk [] bk
  | step {bk : Bk} {a : Int} {td : List Int} {r : Bk} : Bfs N (nbr a (rowL N a) bk) (td ++ ((nbr a (rowL N a) bk).drop bk.length).map (·.1)) r → Bfs N bk (a :: td) r
theorem Bfs.uniq {N : Rw} {bk r r' : Bk} {td : List Int} (h : Bfs N bk td r) (h' : Bfs N bk td r') : r = r' := by
  induction h with
  | nil => cases h'; rfl
  | step _ ih => cases h' with | step h2 => exact ih h2
theorem bfs_steps (N : Rw) : ∀ (f : Nat) (bk : Bk) (td : List Int), okB (tgts N) bk → 2 * ((tgts N).length - bk.length) + td.length ≤ f → Bfs N bk td (bfs N f bk td)
  | 0, bk, td, _, hm => by
    obtain rfl : td = [] := List.eq_nil_of_length_eq_zero (by omega)
    exact .nil
  | _ + 1, bk, [], _, _ => .nil
  | f + 1, bk, a :: td, ho, hm => by
    have ho2 := nbr_okB a (rowL N a) bk ho fun t ht => rowL_tgts ht
    have hl2 := okB_len ho2
    have hl1 := nbr_len a (rowL N a) bk
    exact .step (bfs_steps N f _ _ ho2 (by rw [List.length_append, List.length_map, List.length_drop]; simp only [List.length_cons] at hm; omega))
/-- What ways tells. -/
def wyN (N : Rw) (fr : Int) : Bk := bfs N (2 * (tgts N).length + 1) [] [fr]
theorem wyN_more (N : Rw) (fr : Int) (f : Nat) : Bfs N [] [fr] (bfs N (2 * (tgts N).length + 1 + f) [] [fr]) := bfs_steps N _ [] [fr] (okB_nil _) (by simp <;> omega)
theorem wyN_steps (N : Rw) (fr : Int) : Bfs N [] [fr] (wyN N fr) := wyN_more N fr 0
theorem wyN_ends (N : Rw) (fr : Int) : ∃ s, ∀ f, bfs N (s + f) [] [fr] = wyN N fr := ⟨_, fun f => (wyN_more N fr f).uniq (wyN_steps N fr)⟩
theorem wyN_of {N : Rw} {fr : Int} {bk : Bk} (h : ∃ s, ∀ f, bfs N (s + f) [] [fr] = bk) : bk = wyN N fr := ways_uniq h (wyN_ends N fr)
theorem wyN_tr (N : Rw) (fr : Int) : trOK fr (wyN N fr) := ways_tr (wyN_ends N fr)
theorem bfs_okB (N : Rw) : ∀ (f : Nat) (bk : Bk) (td : List Int), okB (tgts N) bk → okB (tgts N) (bfs N f bk td)
  | 0, _, _, h => h
  | _ + 1, _, [], h => h
  | f + 1, bk, a :: td, h => bfs_okB N f _ _ (nbr_okB a (rowL N a) bk h fun t ht => rowL_tgts ht)
theorem wyN_okB (N : Rw) (fr : Int) : okB (tgts N) (wyN N fr) := bfs_okB N _ _ _ (okB_nil _)
theorem wyN_nodup (N : Rw) (fr : Int) : NodupL (wyN N fr) := (wyN_okB N fr).1
/-- The way back, step by step. -/
def stepB (bk : Bk) (x : Int) : Int := (getL bk x).getD 0
def pathB (bk : Bk) (fr : Int) : Nat → Int → List Int
  | 0, _ => []
  | f + 1, x => if x = fr then [] else x :: pathB bk fr f (stepB bk x)
/-- Where one stands among what is known. -/
def posB (bk : Bk) (x : Int) : Nat := bk.findIdx fun p => decide (p.1 = x)
theorem stepB_mem {bk : Bk} (hn : NodupL bk) {x : Int} (hx : x ∈ bk.map (·.1)) : (x, stepB bk x) ∈ bk := by
  have h := hasL_iff.2 hx
  rw [← getL_isSome] at h
  obtain ⟨v, hv⟩ := Option.isSome_iff_exists.1 h
  unfold stepB
  rw [hv]
  exact (getL_some_iff hn).1 hv
theorem posB_lt {bk : Bk} {x : Int} (hx : x ∈ bk.map (·.1)) : posB bk x < bk.length := by
  obtain ⟨p, hp, he⟩ := List.mem_map.1 hx
  exact List.findIdx_lt_length_of_exists ⟨p, hp, by simpa using he⟩
theorem posB_step {fr : Int} {bk : Bk} (hn : NodupL bk) (ht : trOK fr bk) {x : Int} (hx : x ∈ bk.map (·.1)) : stepB bk x = fr ∨ (stepB bk x ∈ bk.map (·.1) ∧ posB bk (stepB bk x) < posB bk x) := by
  have hm := stepB_mem hn hx
  generalize stepB bk x = y at *
  obtain ⟨l1, l2, rfl⟩ := List.append_of_mem hm
  rcases ht l1 (x, y) l2 rfl with h | h
  · exact .inl h
  · right
    simp only at h
    have hx1 : x ∉ l1.map (·.1) := by
      unfold NodupL at hn
      rw [List.map_append, List.nodup_append] at hn
      intro h1
      exact hn.2.2 x h1 x (by simp) rfl
    have h1 : posB (l1 ++ (x, y) :: l2) x = l1.length := by
      unfold posB
      rw [List.findIdx_append, if_neg]
      · simp [List.findIdx_cons]
      · rw [Nat.not_lt]
        refine Nat.le_of_eq (List.findIdx_eq_length.2 fun p hp => ?_).symm
        have : p.1 ≠ x := fun e => hx1 (List.mem_map.2 ⟨p, hp, e⟩)
        simpa using this
    have h2 : posB (l1 ++ (x, y) :: l2) y < l1.length := by
      have h3 := posB_lt (bk := l1) h
      unfold posB at h3 ⊢
      rw [List.findIdx_append, if_pos h3]
      exact h3
    exact ⟨by rw [List.map_append]; exact List.mem_append_left _ h, by omega⟩
/-- What Cycle tells of edges gone through one by one. -/
def cycG (N : Rw) : List Ed → List Int × Bool
  | [] => ([], false)
  | e :: r => if hasL (wyN N e.from_) e.from_ then ((pathB (wyN N e.from_) e.from_ (wyN N e.from_).length (stepB (wyN N e.from_) e.from_) ++ [e.from_]).reverse, true) else cycG N r
def cyc (L : List Ed) : List Int × Bool := cycG (nxL L) (sdE L)
theorem wyN_len (L : List Ed) (fr : Int) : (wyN (nxL L) fr).length ≤ L.length := Nat.le_trans (okB_len (wyN_okB _ _)) (tgts_nx L)
end Go.Proofs.Ytcnkmhfcgkbhbaa
namespace Go.Proofs.Ytcnkmhfcgkbhbaa
set_option linter.unusedSimpArgs false
set_option linter.unusedVariables false
set_option linter.unnecessarySimpa false
open Go.RowKit
theorem pathB_fr (bk : Bk) (fr : Int) (f : Nat) : pathB bk fr f fr = [] := by
  cases f with
  | zero => rfl
  | succ f => unfold pathB; rw [if_pos rfl]
theorem pathB_ne (bk : Bk) {fr x : Int} (f : Nat) (h : ¬ x = fr) : pathB bk fr (f + 1) x = x :: pathB bk fr f (stepB bk x) := by
  conv => lhs; unfold pathB
  rw [if_neg h]
/-- Where the way back stands with what is left of it. -/
def onB (bk : Bk) (fr : Int) (f : Nat) (x : Int) : Prop := x = fr ∨ (x ∈ bk.map (·.1) ∧ posB bk x < f)
theorem onB_step {bk : Bk} {fr x : Int} {f : Nat} (hn : NodupL bk) (ht : trOK fr bk) (h : onB bk fr (f + 1) x) (hx : ¬ x = fr) : onB bk fr f (stepB bk x) := by
  obtain ⟨h1, h2⟩ := h.resolve_left hx
  rcases posB_step hn ht h1 with h3 | ⟨h3, h4⟩
  · exact .inl h3
  · exact .inr ⟨h3, by omega⟩
theorem onB_pos {bk : Bk} {fr x : Int} {f : Nat} (h : onB bk fr f x) (hx : ¬ x = fr) : 0 < f := by
  have := (h.resolve_left hx).2
  omega
theorem onB_start {N : Rw} {fr : Int} (h : fr ∈ (wyN N fr).map (·.1)) : onB (wyN N fr) fr (wyN N fr).length (stepB (wyN N fr) fr) := by
  rcases posB_step (wyN_nodup N fr) (wyN_tr N fr) h with h3 | ⟨h3, h4⟩
  · exact .inl h3
  · exact .inr ⟨h3, posB_lt h3⟩
/-- What Cycle tells of one that reaches itself. -/
def rsC (N : Rw) (fr : Int) : List Int × Bool := ((pathB (wyN N fr) fr (wyN N fr).length (stepB (wyN N fr) fr) ++ [fr]).reverse, true)
theorem cycG_cons (N : Rw) (e : Ed) (r : List Ed) : cycG N (e :: r) = if hasL (wyN N e.from_) e.from_ then rsC N e.from_ else cycG N r := rfl
end Go.Proofs.Ytcnkmhfcgkbhbaa
namespace Go.Proofs.Ytcnkmhfcgkbhbaa
set_option linter.unusedSimpArgs false
set_option linter.unusedVariables false
set_option linter.unnecessarySimpa false
open Go.RowKit
theorem Rd.trans {N : Rw} {a b c : Int} (h : Rd N a b) (h2 : Rd N b c) : Rd N a c := by
  induction h2 with
  | one ht => exact .more h ht
  | more _ ht ih => exact .more ih ht
theorem Rd.mono {N N' : Rw} (hs : ∀ a t, t ∈ rowL N a → t ∈ rowL N' a) {a b : Int} (h : Rd N a b) : Rd N' a b := by
  induction h with
  | one ht => exact .one (hs _ _ ht)
  | more _ ht ih => exact .more ih (hs _ _ ht)
theorem Rd.first {N : Rw} {a b : Int} (h : Rd N a b) : ∃ t, t ∈ rowL N a := by
  induction h with
  | one ht => exact ⟨_, ht⟩
  | more _ _ ih => exact ih
/-- Whom one reaches, rising. -/
def rcL (L : List Ed) (a : Int) : List Int := srI ((wyN (nxL L) a).map (·.1))
theorem rcL_len (L : List Ed) (a : Int) : (rcL L a).length = (wyN (nxL L) a).length := by
  unfold rcL
  rw [srI_len, List.length_map]
end Go.Proofs.Ytcnkmhfcgkbhbaa
namespace Go.Proofs.Ytcnkmhfcgkbhbaa
set_option linter.unusedSimpArgs false
set_option linter.unusedVariables false
set_option linter.unnecessarySimpa false
open Go.RowKit
set_option maxHeartbeats 4000000 in
set_option maxRecDepth 100000 in
theorem cycle_any (v : Value) (L : List Ed) (w : World) (hv : RL w v 2 L.length (L.flatMap Ed.cells)) (hl : L.length ≤ 1000) :
    Calls Try.prog 14 #[v] w fun e w' => ∃ (a : Option Addr) (c : Nat), e = .returned (.tuple #[.slice a (cyc L).1.length c, .bool (cyc L).2]) ∧ Sep w' [vec 3 1 (.slice a (cyc L).1.length c) (cyc L).1.length ((cyc L).1.map (Value.int .i64)), old w] := by
  unfold cyc
  have HN := Lib.hid (nexts_any v L w hv hl)
  have htg := tgts_nx L
  have hwl := Lib.hid (wyN_len L)
  go_enter Try.func14, Try.ntmps14
  go_wp2_with fail
  refine HN.out.mono ?_
  rintro e w1 ⟨b, es, R, rfl, hR, hN, hV⟩
  have HS := Lib.hid (sorted_any v L w1 (hv.below hV.tail.tail.gold) (by omega))
  clear HN
  go_wp2_with fail
  refine HS.out.mono ?_
  rintro e w2 ⟨a, c, rfl, q⟩
  have hV2 := Lib.hid (q.graft hV)
  have hsl := sdE_len L
  clear HS q hV hv
  have hfin : ∃ r, Hid (cycG (nxL L) (sdE L) = r) := ⟨_, rfl⟩
  obtain ⟨res, hres⟩ := hfin
  have hres2 := hres
  generalize sdE L = S at hsl hV2 hres2 ⊢
  obtain ⟨n, hn⟩ : ∃ n, Hid (S.length = n) := ⟨_, rfl⟩
  rw [hn.out] at hsl hV2 ⊢
  have hW := Lib.hid (fun fr W rs' h => ways_any b es R fr W rs' h hN (by rw [hR]; omega))
  simp only [hR] at hW
  generalize nxL L = N at hW hres2 hwl
  replace hW := Lib.hid hW.out
  clear hN
  replace hwl := Lib.hid (fun fr => Nat.le_trans (hwl.out fr) hl)
  obtain ⟨i0, hi0, hz0, hz1, hz2⟩ := info_parts info_int
  replace hV2 := Lib.hid hV2
  go_wp2_with fail
  go_loopg [18] n (fun gm s18 W => ∃ k : Nat, k ≤ n ∧ gm = n - k ∧ s18 = .int .i64 k ∧ Hid (res = cycG N (S.drop k)) ∧ Hid (Sep W [vec 41 2 (.slice a n c) n (S.flatMap Ed.cells), mapr ekI (id : Value → Value) b es, rowsR R, old w]))
  case atStart => exact ⟨0, Nat.zero_le _, rfl, rfl, Lib.hid hres2.out.symm, hV2⟩
  case round =>
    clear hV2 hres2
    obtain ⟨k, hk, hgm, rfl, hE, hV⟩ := hrel
    by_cases hlt : k < n
    · obtain ⟨g, rfl, _, _, zz, _⟩ := hV.out.vec_at ed_len hn.out hlt
      have hg : S.getD k default = S[k]'(by rw [hn.out]; exact hlt) := by simp [List.getD, show k < S.length by rw [hn.out]; exact hlt]
      have hD := Lib.hid (show S.drop k = S.getD k default :: S.drop (k + 1) by rw [hg]; exact List.drop_eq_getElem_cons (by rw [hn.out]; exact hlt))
      rw [hD.out, cycG_cons] at hE
      generalize S.getD k default = ed at *
      obtain ⟨fr, tgt⟩ := ed
      have z0 := zz 0 _ rfl
      have z1 := zz 1 _ rfl
      rw [Nat.add_zero] at z0
      simp only at hE
      have i1 : (0 : Int) ≤ (k : Int) := by omega
      have i2 : (k : Int) < (n : Int) := by omega
      clear zz hg hD
      have hB := Lib.hid (hV.out.alloc #[.int .i64 fr, .int .i64 tgt] 41)
      clear hV
      obtain ⟨_, c0, c1, _⟩ := hB.out.b2
      go_wp2_with fail
      replace hB := Lib.hid (hB.out.to3.to3)
      generalize wr.heap.size = EB at *
      refine (hW.out fr _ _ hB.out).mono ?_
      rintro e w3 ⟨mb, a2, c2, bk, rfl, hb, hbl, q⟩
      obtain rfl := wyN_of hb
      clear hb hbl hB
      have hV := Lib.hid q.drop1.to3
      clear q
      have hkl := hwl.out fr
      have hnd := Lib.hid (wyN_nodup N fr)
      have htr := Lib.hid (wyN_tr N fr)
      have hst := Lib.hid (fun h => onB_start (N := N) (fr := fr) h)
      unfold rsC at hE
      generalize wyN N fr = bk at *
      obtain ⟨_, c0, c1, _⟩ := hV.out.b2
      cases hh : hasL bk fr with
      | false =>
        rw [hh, if_neg (by simp)] at hE
        generalize hlv : ((getL bk fr).map ekI).getD (.int .i64 0) = lv at *
        go_wp2_with (at_lookup; refine wpList_lookup_map hV.out.to1 lawI und_back rfl (.tmp 30) (.tmp 32) true rfl (zero_int _) rfl fr rfl ?_; rw [if_pos rfl, hh, hlv])
        go_roundg (n - (k + 1))
        case measure => omega
        case rel => exact ⟨k + 1, by omega, rfl, by go_num, hE, Lib.hid hV.out.drop1.tail.to2⟩
      | true =>
        rw [hh, if_pos rfl] at hE
        replace hst := Lib.hid (hst.out (hasL_iff.1 hh))
        have hlv : ∀ x, ((getL bk x).map ekI).getD (.int .i64 0) = .int .i64 (stepB bk x) := fun x => by unfold stepB; cases getL bk x <;> rfl
        go_wp2_with (at_lookup; first | (refine wpList_lookup_map hV.out.to1 lawI und_back rfl (.tmp 30) (.tmp 32) true rfl (zero_int _) rfl fr rfl ?_; rw [if_pos rfl, hh, hlv]) | (refine wpList_lookup_map hV.out.to1 lawI und_back rfl (.tmp 38) (.tmp 40) false rfl (zero_int _) rfl fr rfl ?_; rw [if_neg (by simp), hlv]))
        generalize hD : bk.length = D at *
        obtain ⟨P, hP⟩ : ∃ P, Hid (pathB bk fr D (stepB bk fr) = P) := ⟨_, rfl⟩
        rw [hP.out] at hE
        have hV0 := Lib.hid (hV.out.vec_nil 3 1)
        replace hD := Lib.hid hD
        clear hV hh
        go_loopg [11, 12] D (fun gm s11 s12 W => ∃ (o : List Int) (x : Int) (ao : Option Addr) (co f : Nat), gm = f ∧ o.length + f = D ∧ s11 = .slice ao o.length co ∧ s12 = .int .i64 x ∧ Hid (onB bk fr f x) ∧ Hid (P = o ++ pathB bk fr f x) ∧ Hid (Sep W [vec 3 1 (.slice ao o.length co) o.length (o.map (Value.int .i64)), blk EB 41 #[.int .i64 fr, .int .i64 tgt], mapr ekI ekI mb bk, mapr ekI (id : Value → Value) b es, rowsR R, vec 41 2 (.slice (some ⟨g, 0, none⟩) n c) n (S.flatMap Ed.cells), old w]))
        case atStart => exact ⟨[], stepB bk fr, none, 0, D, rfl, by simp, rfl, rfl, hst, Lib.hid (by rw [← hP.out]; rfl), hV0⟩
        case round =>
          clear hV0 hst
          obtain ⟨o, x, ao, co, f, hg2, hol, rfl, rfl, hon, hPo, hV⟩ := hrel
          obtain ⟨_, c0, c1, _⟩ := hV.out.to1.b2
          have hoD := Lib.hid (show o.length ≤ D by omega)
          have h1c : Hid (∀ y, ∀ u ∈ ([.int .i64 y] : List Value), u.oneCell' = true) := Lib.hid (by simp [Value.oneCell'])
          by_cases hx : fr = x
          · subst hx
            rw [hPo.out, pathB_fr, List.append_nil] at hE
            have hkl2 := Lib.hid hkl
            clear hPo hkl
            go_wp2_with (at_builtin; refine wpList_append_sep (hV.out.allocG _) rfl _ _ 30 rfl i0 _ 8 Try.underlying30 hi0 hz0 hz1 hz2 rfl (by decide) rfl 1 [.int .i64 fr] (SrcA.one _ _ _ _) (h1c.out _) (by have := hoD.out; have := hkl2.out; simp only [maxLen]; omega) (by have := hoD.out; have := hkl2.out; omega) ?_; intro oa' oc' w4 q2; replace q2 := Lib.hid q2)
            have hRv := Lib.hid (revI_any oa' (o.length + 1) oc' (o ++ [fr]) w4 _ (by rw [List.map_append]; exact q2.out) (by simp) (by omega) (by have := hoD.out; have := hkl2.out; omega))
            refine hRv.out.mono ?_
            rintro e w5 ⟨rfl, q3⟩
            replace q3 := Lib.hid q3
            clear hRv q2
            go_wp2_with fail
            refine bodyPost_ret (v := .tuple #[.slice oa' (o.length + 1) oc', .bool true]) (by simp [results, Try.results14, go_sem, *]) rfl ⟨oa', oc', ?_, ?_⟩
            · rw [hres.out, hE.out]; simp
            · rw [hres.out, hE.out]
              have h := q3.out.drop1.drop1.drop1.drop1.drop1
              simpa using h
          · have hx2 : (x == fr) = false := by rw [beq_eq_false_iff_ne]; exact Ne.symm hx
            have hx3 : ¬ x = fr := Ne.symm hx
            obtain ⟨f, rfl⟩ : ∃ f', f = f' + 1 := ⟨f - 1, by have := onB_pos hon.out hx3; omega⟩
            have hon2 := Lib.hid (onB_step hnd.out htr.out hon.out hx3)
            rw [pathB_ne _ _ hx3] at hPo
            have hkl2 := Lib.hid hkl
            clear hon hkl
            go_wp2_with (first | (at_builtin; refine wpList_append_sep (hV.out.allocG _) rfl _ _ 30 rfl i0 _ 8 Try.underlying30 hi0 hz0 hz1 hz2 rfl (by decide) rfl 1 [.int .i64 x] (SrcA.one _ _ _ _) (h1c.out _) (by have := hoD.out; have := hkl2.out; simp only [maxLen]; omega) (by have := hoD.out; have := hkl2.out; omega) ?_; intro oa' oc' w4 q2; replace q2 := Lib.hid q2) | (at_lookup; refine wpList_lookup_map q2.out.to2 lawI und_back rfl (.tmp 46) (.tmp 47) false rfl (zero_int _) rfl x rfl ?_; rw [if_neg (by simp), hlv]))
            go_roundg f
            case measure => omega
            case rel => exact ⟨o ++ [x], stepB bk x, oa', oc', f, rfl, by simp; omega, by simp, rfl, hon2, Lib.hid (by rw [hPo.out]; simp), Lib.hid (by have h := q2.out; simpa using h)⟩
    · have hkn : k = n := by omega
      subst hkn
      have hd : S.drop k = [] := by rw [← hn.out, List.drop_length]
      rw [hd] at hE
      go_wp2_with fail
      refine bodyPost_ret (v := .tuple #[.slice none 0 0, .bool false]) (by simp [results, Try.results14, go_sem, *]) rfl ⟨none, 0, ?_, ?_⟩
      · rw [hres.out, hE.out]; rfl
      · rw [hres.out, hE.out]
        exact (hV.out.tail.tail.tail.vec_nil 3 1)
end Go.Proofs.Ytcnkmhfcgkbhbaa
namespace Go.Proofs.Ytcnkmhfcgkbhbaa
set_option linter.unusedSimpArgs false
set_option linter.unusedVariables false
set_option linter.unnecessarySimpa false
open Go.RowKit
theorem same_true (u v : Value) (xs : List Int) (w : World) (hn : xs.length ≤ 1000) (hu : RI w u xs) (hv : RI w v xs) :
   Calls Try.prog 20 #[u, v] w fun e w' => e = .returned (.bool true) ∧ ∃ m, w' = w.drewN m := by
  obtain ⟨a, c, rfl, hr⟩ := hu
  obtain ⟨a', c', rfl, hr'⟩ := hv
  have HR := Lib.hid hr
  have HR' := Lib.hid hr'
  clear hr hr'
  generalize hl : xs.length = n at *
  have hl := Lib.hid hl
  go_enter Try.func20, Try.ntmps20
  go_wp2
  go_loopw [5] (fun i w1 => ∃ k : Nat, k ≤ n ∧ i = .int .i64 k ∧ ∃ m, w1 = w.drewN m) (fun i _ => n - (intOf i).toNat)
  case atStart => exact ⟨0, Nat.zero_le _, rfl, 0, rfl⟩
  case round =>
    obtain ⟨k, hk, rfl, m, rfl⟩ := hrel
    by_cases hlt : k < n
    · obtain ⟨b, off, rfl, _, hc⟩ := HR.out (by omega)
      obtain ⟨b', off', rfl, _, hc'⟩ := HR'.out (by omega)
      have h1 := hc k hlt
      have h2 := hc' k hlt
      clear hc hc' HR HR'
      generalize xs.getD k 0 = x at *
      go_wp2_with fail
      go_quiet (fail)
      go_wp2_with fail
      go_roundw
      case rel => exact ⟨k+1, by omega, by go_num, _, rfl⟩
      case measure => simp [intOf]; omega
    · go_wp2
      go_ret
      exact ⟨rfl, _, rfl⟩
end Go.Proofs.Ytcnkmhfcgkbhbaa
namespace Go.Proofs.Ytcnkmhfcgkbhbaa
set_option linter.unusedSimpArgs false
set_option linter.unusedVariables false
set_option linter.unnecessarySimpa false
open Go.RowKit
theorem reachL_any (v : Value) (L : List Ed) (fr : Int) (w : World) (hv : RL w v 2 L.length (L.flatMap Ed.cells)) (hl : L.length ≤ 1000) :
    Calls Try.prog 15 #[v, .int .i64 fr] w fun e w' => ∃ a c, e = .returned (.slice a (rcL L fr).length c) ∧ Sep w' [vec 3 1 (.slice a (rcL L fr).length c) (rcL L fr).length ((rcL L fr).map (Value.int .i64)), old w] := by
  refine (reach_any v L fr w hv hl).mono ?_
  rintro e w' ⟨a, c, bk, rfl, hb, _, q⟩
  obtain rfl := wyN_of hb
  rw [rcL_len]
  exact ⟨a, c, rfl, q⟩
theorem acyclic_any (v : Value) (L : List Ed) (w : World) (hv : RL w v 2 L.length (L.flatMap Ed.cells)) (hl : L.length ≤ 1000) :
    Calls Try.prog 12 #[v] w fun e w' => e = .returned (.bool !(cyc L).2) ∧ Below w.heap.size w w' := by
  have HC := Lib.hid (cycle_any v L w hv hl)
  clear hv
  go_enter Try.func12, Try.ntmps12
  go_wp2_with fail
  refine HC.out.mono ?_
  rintro e w1 ⟨a, c, rfl, q⟩
  replace q := Lib.hid q
  clear HC
  go_wp2_with fail
  go_ret
  exact ⟨rfl, q.out.tail.gold⟩
end Go.Proofs.Ytcnkmhfcgkbhbaa
namespace Go.Proofs.Ytcnkmhfcgkbhbaa
set_option linter.unusedSimpArgs false
set_option linter.unusedVariables false
set_option linter.unnecessarySimpa false
open Go.RowKit
abbrev exL : List Ed := [⟨1, 2⟩, ⟨2, 3⟩, ⟨3, 1⟩, ⟨2, 1⟩]
theorem ex_sd : sdE exL = [⟨1, 2⟩, ⟨2, 1⟩, ⟨2, 3⟩, ⟨3, 1⟩] := by
  refine ltE_uniq _ _ (sdE_pw _) ?_ fun e => ?_
  · simp [ltE]
  · rw [sdE_mem]
    simp only [exL, List.mem_cons, List.not_mem_nil, or_false]
    constructor
    · rintro (h | h | h | h) <;> simp [h]
    · rintro (h | h | h | h) <;> simp [h]
theorem ex_cyc : cyc exL = ([1, 2], true) := by
  unfold cyc nxL
  rw [ex_sd]
  rfl
theorem ex_rl {w : World} {g : Nat} {rs : List Res} (h : Sep w (blk g 41 #[.int .i64 1, .int .i64 2, .int .i64 2, .int .i64 3, .int .i64 3, .int .i64 1, .int .i64 2, .int .i64 1] :: rs)) : RL w (.slice (some ⟨g, 0, none⟩) 4 4) 2 exL.length (exL.flatMap Ed.cells) :=
  (h.blk_vec (size := 2) (n := 4) (c := 4) (xs := exL.flatMap Ed.cells) rfl (Nat.le_refl _) (by decide) rfl rfl).vec_rl
theorem ri_two {w : World} {g : Nat} {x y : Int} {t : TypeId} {rs : List Res} (h : Sep w (blk g t #[.int .i64 x, .int .i64 y] :: rs)) : RI w (.slice (some ⟨g, 0, none⟩) 2 2) [x, y] :=
  ⟨_, 2, rfl, fun _ => ⟨g, 0, rfl, h.b2.1, fun j hj => by
    have h2 : j = 0 ∨ j = 1 := by simp at hj; omega
    rcases h2 with rfl | rfl
    · exact h.b2.2.1
    · exact h.b2.2.2.1⟩⟩
set_option maxHeartbeats 4000000 in
set_option maxRecDepth 100000 in
theorem lives_any (w : World) : Calls Try.prog 8 #[] w fun e w' => e = .returned (.bool true) ∧ Below w.heap.size w w' := by
  have hS := Lib.hid ((Sep.start w).alloc #[.int .i64 1, .int .i64 2, .int .i64 2, .int .i64 3, .int .i64 3, .int .i64 1, .int .i64 2, .int .i64 1] 41)
  have HC := Lib.hid (cycle_any _ exL _ (ex_rl hS.out) (by decide))
  rw [ex_cyc] at HC
  go_enter Try.func8, Try.ntmps8
  go_wp2_with fail
  refine HC.out.mono ?_
  rintro e w1 ⟨a, c, rfl, q⟩
  simp only [List.length_cons, List.length_nil] at q ⊢
  replace hS := Lib.hid (q.graft hS.out)
  clear q HC
  replace hS := Lib.hid (hS.out.alloc #[.int .i64 1, .int .i64 2] 3)
  go_wp2_with fail
  refine (same_true _ _ [1, 2] _ (by decide) hS.out.to1.vec_ri (ri_two hS.out)).mono ?_
  rintro e w2 ⟨rfl, m, rfl⟩
  replace hS := Lib.hid (hS.out.drewN m)
  go_wp2_with fail
  go_ret
  exact ⟨rfl, hS.out.tail.tail.tail.gold⟩
end Go.Proofs.Ytcnkmhfcgkbhbaa
