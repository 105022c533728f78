/-
  Contracts and plain laws that the walk leans on, part 15. No condition.
-/
import Derived.Test.YtcnkmhfcgkbhbaaGreatZCl14
import Derived.WalkMore
import Derived.Shelf.Slices.In.SortNone
namespace Go.Proofs.YtcnkmhfcgkbhbaaGreat
open Go.RowKit
/-- One's neighbours gone through. -/
def nbr (a : Int) (ts : List Int) (bk : List (Int × Int)) : List (Int × Int) := ts.foldl (fun bk t => if hasL bk t then bk else bk ++ [(t, a)]) bk
def rowL (N : List (Int × List Int)) (a : Int) : List Int := ((N.find? fun p => decide (p.1 = a)).map (·.2)).getD []
/-- Nearest ones first: what is known, and who is still to be looked at. -/
def bfs (N : List (Int × List Int)) : Nat → List (Int × Int) → List Int → List (Int × Int)
  | 0, bk, _ => bk
  | _ + 1, bk, [] => bk
  | f + 1, bk, a :: todo => bfs N f (nbr a (rowL N a) bk) (todo ++ ((nbr a (rowL N a) bk).drop bk.length).map (·.1))
theorem bfs_nil (N : List (Int × List Int)) (f : Nat) (bk : List (Int × Int)) : bfs N f bk [] = bk := by cases f <;> rfl
theorem nbr_snoc (a : Int) (ts : List Int) (t : Int) (bk : List (Int × Int)) : nbr a (ts ++ [t]) bk = if hasL (nbr a ts bk) t then nbr a ts bk else nbr a ts bk ++ [(t, a)] := by
  unfold nbr
  rw [List.foldl_append]
  rfl
theorem nbr_len (a : Int) : ∀ (ts : List Int) (bk : List (Int × Int)), bk.length ≤ (nbr a ts bk).length
  | [], _ => Nat.le_refl _
  | t :: ts, bk => by
    have h := nbr_len a ts (if hasL bk t then bk else bk ++ [(t, a)])
    have h2 : bk.length ≤ (if hasL bk t then bk else bk ++ [(t, a)]).length := by
      split
      · exact Nat.le_refl _
      · simp
    exact Nat.le_trans h2 h
/-- What is known: each once, all of them targets. -/
def okB (T : List Int) (bk : List (Int × Int)) : Prop := (bk.map (·.1)).Nodup ∧ ∀ x ∈ bk.map (·.1), x ∈ T
theorem okB_nil (T : List Int) : okB T [] := ⟨by simp, by simp⟩
theorem okB_snoc {T : List Int} {bk : List (Int × Int)} {t a : Int} (h : okB T bk) (ht : t ∈ T) (hf : hasL bk t = false) : okB T (bk ++ [(t, a)]) := by
  have hn : t ∉ bk.map (·.1) := by rw [← hasL_iff, hf]; simp
  refine ⟨?_, fun x hx => ?_⟩
  · rw [List.map_append, List.nodup_append]
    refine ⟨h.1, by simp, fun x hx y hy => ?_⟩
    simp at hy
    subst hy
    rintro rfl
    exact hn hx
  · rw [List.map_append, List.mem_append] at hx
    rcases hx with hx | hx
    · exact h.2 x hx
    · simp at hx; subst hx; exact ht
theorem nodup_len : ∀ (l T : List Int), l.Nodup → (∀ x ∈ l, x ∈ T) → l.length ≤ T.length
  | [], _, _, _ => Nat.zero_le _
  | x :: l, T, hn, hs => by
    rw [List.nodup_cons] at hn
    have hx := hs x (List.mem_cons_self ..)
    have h := nodup_len l (T.erase x) hn.2 fun y hy => (List.mem_erase_of_ne (fun e : _ = x => hn.1 (by rw [← e]; exact hy))).2 (hs y (List.mem_cons_of_mem _ hy))
    rw [List.length_erase_of_mem hx] at h
    have := List.length_pos_of_mem hx
    simp only [List.length_cons]
    omega
theorem okB_len {T : List Int} {bk : List (Int × Int)} (h : okB T bk) : bk.length ≤ T.length := by
  have := nodup_len _ T h.1 h.2
  simpa using this
/-- All targets of some rows. -/
def tgts (N : List (Int × List Int)) : List Int := N.flatMap (·.2)
theorem rowL_tgts {N : List (Int × List Int)} {a t : Int} (h : t ∈ rowL N a) : t ∈ tgts N := by
  unfold rowL at h
  cases hf : N.find? (fun p => decide (p.1 = a)) with
  | none => rw [hf] at h; simp at h
  | some p =>
    rw [hf] at h
    exact List.mem_flatMap.2 ⟨p, List.mem_of_find?_eq_some hf, by simpa using h⟩
theorem rowL_len (a : Int) : ∀ N : List (Int × List Int), (rowL N a).length ≤ (tgts N).length
  | [] => Nat.zero_le _
  | p :: N => by
    have h := rowL_len a N
    have e : tgts (p :: N) = p.2 ++ tgts N := by simp [tgts]
    rw [e, List.length_append]
    unfold rowL at h ⊢
    rw [List.find?_cons]
    cases hd : decide (p.1 = a) with
    | true => simp
    | false => simp only; omega
theorem rows_rl {W : World} : ∀ {R : List Row} {rs : List Res}, Sep W (rowsR R :: rs) → ∀ r ∈ R, RL W r.2.1 1 r.2.2.length (r.2.2.map (Value.int .i64))
  | [], _, _, r, hr => by simp at hr
  | q :: R, rs, h, r, hr => by
    have h2 := Sep.gstar.1 h
    rcases List.mem_cons.1 hr with rfl | hr
    · exact h2.vec_rl
    · exact rows_rl h2.tail r hr
theorem look_rl {W : World} {es : List (Int × Value)} {R : List Row} {rs : List Res} (hS : Sep W (rowsR R :: rs)) (hN : NX es R) (a : Int) :
    RL W (((getL es a).map (id : Value → Value)).getD (.slice none 0 0)) 1 (rowL (rowsP R) a).length ((rowL (rowsP R) a).map (Value.int .i64)) := by
  have hf : (rowsP R).find? (fun p => decide (p.1 = a)) = (rowOf R a).map fun r => (r.1, r.2.2) := by
    unfold rowsP rowOf
    rw [List.find?_map]
    rfl
  rw [hN a]
  unfold rowL
  rw [hf]
  cases hr : rowOf R a with
  | none => exact RL.nil W 1
  | some r => exact rows_rl hS r (List.mem_of_find?_eq_some hr)
theorem und_back : Tryz.prog.underlying 41 = some (.map 3 3) := by kernel_rfl
theorem zero_int (w : World) : (zeroValue 3).run Tryz.prog w = .ok (.int .i64 0) w := by kernel_rfl
def bcells (bk : List (Int × Int)) : List Value := bk.map fun p => Value.int .i64 p.1
set_option maxHeartbeats 4000000 in
set_option maxRecDepth 100000 in
theorem ways_any (b : Nat) (es : List (Int × Value)) (R : List Row) (from_ : Int) (w : World) (rs : List Res) (hS : Sep w (mapr ekI (id : Value → Value) b es :: rowsR R :: rs)) (hN : NX es R) (hD : (tgts (rowsP R)).length ≤ 1000) :
    Calls Tryz.prog 22 #[.map (some b), .int .i64 from_] w fun e w' => ∃ mb a c bk, e = .returned (.tuple #[.map (some mb), .slice a bk.length c]) ∧ (∃ s, ∀ f, bfs (rowsP R) (s + f) [] [from_] = bk) ∧ bk.length ≤ (tgts (rowsP R)).length ∧
      Sep w' (mapr ekI ekI mb bk :: vec 3 1 (.slice a bk.length c) bk.length (bcells bk) :: mapr ekI (id : Value → Value) b es :: rowsR R :: rs) := by
  have hmm := @run_makeMap Tryz.prog
  obtain ⟨i0, hi0, hz0, hz1, hz2⟩ := info_parts info_int
  have hLK := Lib.hid (fun W rs' (h : Sep W (rowsR R :: rs')) a => look_rl h hN a)
  obtain ⟨N, hNR⟩ : ∃ N, rowsP R = N := ⟨_, rfl⟩
  rw [hNR] at hD
  simp only [hNR] at hLK ⊢
  obtain ⟨T, hT⟩ : ∃ T, Hid (tgts N = T) := ⟨_, rfl⟩
  rw [hT.out] at hD ⊢
  obtain ⟨D, hDT⟩ : ∃ D, Hid (T.length = D) := ⟨_, rfl⟩
  rw [hDT.out] at hD ⊢
  replace hLK := Lib.hid hLK.out
  have hM := Lib.hid (((hS.map_new ekI ekI).alloc #[.int .i64 from_] 3))
  clear hNR hN hS
  go_enter Tryz.func22, Tryz.ntmps22
  go_wp2_with fail
  go_step3
  go_wp2_with fail
  clear hmm
  simp only [World.size_alloc] at hM
  have hV0 := Lib.hid ((((hM.out.blk_tl (k := 0) (n := 1) (c := 1) (xs := [.int .i64 from_]) (Nat.le_refl _) (by decide) (by simp) rfl).vec_nil 3 1)).to2)
  clear hM
  have h00 : Hid (∀ f, bfs N (0 + f) [] [from_] = bfs N f [] [from_]) := Lib.hid (fun f => by rw [Nat.zero_add])
  go_step3
  go_wp2_with fail
  generalize w.heap.size + 1 = tb at *
  generalize w.heap.size = mb at *
  go_loopg [5, 6] (2 * D + 1) (fun gm s5 s6 W => ∃ (bk : List (Int × Int)) (td : List Int) (a5 : Option Addr) (c5 g6 k6 c6 : Nat), gm = 2 * (D - bk.length) + td.length ∧ s5 = .slice a5 bk.length c5 ∧ s6 = .slice (some ⟨g6, k6, none⟩) td.length c6 ∧ td.length ≤ bk.length + 1 ∧ Hid (okB T bk) ∧ Hid (∃ s, ∀ f, bfs N (s + f) [] [from_] = bfs N f bk td) ∧ Hid (Sep W (mapr ekI ekI mb bk :: vec 3 1 (.slice a5 bk.length c5) bk.length (bcells bk) :: tl 3 (.slice (some ⟨g6, k6, none⟩) td.length c6) td.length (td.map (Value.int .i64)) :: mapr ekI (id : Value → Value) b es :: rowsR R :: rs)))
  case atStart => exact ⟨[], [from_], none, 0, tb, 0, 1, by simp, rfl, rfl, by simp, Lib.hid (okB_nil T), Lib.hid ⟨0, h00.out⟩, hV0⟩
  case round =>
    clear hV0 h00
    obtain ⟨bk, td, a5, c5, g6, k6, c6, hg, rfl, rfl, htb, hok, hst, hV⟩ := hrel
    cases td with
    | nil =>
      have hfin := Lib.hid (show ∃ s, ∀ f, bfs N (s + f) [] [from_] = bk by obtain ⟨s, h⟩ := hst.out; exact ⟨s, fun f => by rw [h, bfs_nil]⟩)
      have hbl := Lib.hid (show bk.length ≤ D by rw [← hDT.out]; exact okB_len hok.out)
      have h0 : (([] : List Int).length : Int) = 0 := rfl
      clear hst hok
      go_wp2_with fail
      simp only [Exit.noGoto_ret]
      refine bodyPost_ret (v := .tuple #[.map (some mb), .slice a5 bk.length c5]) (by simp [results, Tryz.results22, go_sem, *]) rfl ⟨mb, a5, c5, bk, rfl, hfin.out, hbl.out, hV.out.drop2⟩
    | cons at_ td =>
      have hz : (((at_ :: td).length : Nat) : Int) = (td.length : Int) + 1 := by simp
      have hne : ¬ ((td.length : Int) + 1 = 0) := by omega
      obtain ⟨z0, hc6, hV2⟩ := (show Sep _ (tl _ (.slice (some ⟨g6, k6, none⟩) (td.length + 1) c6) (td.length + 1) (.int .i64 at_ :: td.map (Value.int .i64)) :: _) from hV.out.to2).tl_head
      replace hV2 := Lib.hid hV2
      have hc62 : c6 = 1 → td.length = 0 := by omega
      by_cases hc1 : c6 = 1
      · subst hc1
        obtain rfl := List.eq_nil_of_length_eq_zero (hc62 rfl)
        have hV3 := Lib.hid (show Sep wr (tl 3 (.slice (some ⟨g6, k6, none⟩) 0 0) 0 [] :: mapr ekI ekI mb bk :: vec 3 1 (.slice a5 bk.length c5) bk.length (bcells bk) :: mapr ekI (id : Value → Value) b es :: rowsR R :: rs) by
          obtain ⟨g', k', c', cur, hv, hB, a1, a2, a3, a4, a5'⟩ := hV2.out.tl_blk
          injection hv with e1 e2 e3
          injection e1 with e1
          injection e1 with e1 e1'
          subst e1 e1' e3
          exact hB.blk_tl (by omega) (by decide) (by omega) rfl)
        clear hV hV2
        obtain ⟨X, hX⟩ : ∃ X, Hid (rowL N at_ = X) := ⟨_, rfl⟩
        have hrl := Lib.hid (fun W rs' (h : Sep W (rowsR R :: rs')) => hLK.out W rs' h at_)
        simp only [hX.out] at hrl
        obtain ⟨_, ra, rc, hrv, _⟩ := hrl.out _ _ (hV3.out.bring 4 rfl)
        obtain ⟨m, hm⟩ : ∃ m, Hid (X.length = m) := ⟨_, rfl⟩
        have hmD : m ≤ D := by rw [← hm.out, ← hX.out, ← hDT.out, ← hT.out]; exact rowL_len at_ N
        rw [hm.out] at hrv
        simp only [hrv, hm.out] at hrl
        replace hrv := Lib.hid hrv
        replace hrl := Lib.hid hrl.out
        clear hc6 hc62
        go_wp2_with (at_lookup; refine wpList_lookup_map hV3.out.to3 lawI und_nx rfl (.tmp 23) (.tmp 24) false rfl (zero_ints _) rfl at_ rfl ?_; rw [if_neg (by simp), hrv.out])
        clear z0
        obtain ⟨td0, htd0⟩ : ∃ t : List Int, Hid (t = []) := ⟨_, rfl⟩
        have htl := Lib.hid (show td0.length ≤ bk.length by rw [htd0.out]; simp only [List.length_cons, List.length_nil] at htb ⊢; omega)
        have htl3 := Lib.hid (show td0.length < (at_ :: []).length by rw [htd0.out]; simp)
        go_loopg [5, 6, 27] m (fun gm s5 s6 s27 W => ∃ (j : Nat) (bk2 : List (Int × Int)) (td2 : List Int) (a5 : Option Addr) (c5 g6 k6 c6 : Nat), j ≤ m ∧ gm = m - j ∧ s5 = .slice a5 bk2.length c5 ∧ s6 = .slice (some ⟨g6, k6, none⟩) td2.length c6 ∧ s27 = .int .i64 j ∧ Hid (bk2 = nbr at_ (X.take j) bk) ∧ Hid (okB T bk2) ∧ Hid (td2 = td0 ++ (bk2.drop bk.length).map (·.1)) ∧ Hid (Sep W (tl 3 (.slice (some ⟨g6, k6, none⟩) td2.length c6) td2.length (td2.map (Value.int .i64)) :: mapr ekI ekI mb bk2 :: vec 3 1 (.slice a5 bk2.length c5) bk2.length (bcells bk2) :: mapr ekI (id : Value → Value) b es :: rowsR R :: rs)))
        case atStart => exact ⟨0, bk, [], a5, c5, g6, k6, 0, Nat.zero_le _, rfl, rfl, rfl, rfl, Lib.hid rfl, hok, Lib.hid (by rw [htd0.out]; simp), hV3⟩
        case round =>
          clear hV3
          obtain ⟨j, bk2, td2, a5, c5, g6, k6, c6, hj, hg2, rfl, rfl, rfl, hb2, hok2, htd2, hV⟩ := hrel
          by_cases hlt : j < m
          · obtain ⟨t, ht⟩ : ∃ t, X[j]? = some t := ⟨X[j]'(by rw [hm.out]; exact hlt), List.getElem?_eq_getElem _⟩
            obtain ⟨_, ra', rc', hre, _, _, hr⟩ := hrl.out _ _ (hV.out.bring 4 rfl)
            obtain ⟨rb, roff, hra, _, zz⟩ := hr (by omega)
            injection hre with e1 _ e3
            subst e1 e3 hra
            have z0 := zz j (.int .i64 t) (by rw [List.getElem?_map, ht]; rfl)
            clear zz hr
            have htT := Lib.hid (show t ∈ T by rw [← hT.out]; exact rowL_tgts (a := at_) (by rw [hX.out]; exact List.mem_of_getElem? ht))
            have hsn := Lib.hid (show nbr at_ (X.take (j + 1)) bk = if hasL bk2 t then bk2 else bk2 ++ [(t, at_)] by rw [List.take_add_one, ht, Option.toList_some, nbr_snoc, ← hb2.out])
            have i1 : (0 : Int) ≤ (j : Int) := by omega
            have i2 : (j : Int) < (m : Int) := by omega
            replace ht := Lib.hid ht
            cases hh : hasL bk2 t with
            | true =>
              rw [hh, if_pos rfl] at hsn
              generalize hlv : ((getL bk2 t).map ekI).getD (.int .i64 0) = lv at *
              go_wp2_with (at_lookup; refine wpList_lookup_map hV.out.to1 lawI und_back rfl (.tmp 32) (.tmp 33) true rfl (zero_int _) rfl t rfl ?_; rw [if_pos rfl, hh, hlv])
              go_roundg (m - (j + 1))
              case measure => omega
              case rel => exact ⟨j + 1, bk2, td2, a5, c5, g6, k6, c6, by omega, rfl, rfl, rfl, by go_num, Lib.hid (by rw [hsn.out]), hok2, htd2, hV⟩
            | false =>
              rw [hh, if_neg (by simp)] at hsn
              have hok3 := Lib.hid (okB_snoc (a := at_) hok2.out htT.out hh)
              have hbl := Lib.hid (show bk2.length + 1 ≤ D by have h := okB_len hok3.out; rw [hDT.out] at h; simpa using h)
              have hput : putL bk2 t at_ = bk2 ++ [(t, at_)] := by unfold putL; rw [hh]; rfl
              have h1u : (Value.int .i64 t).oneCell' = true := rfl
              have h1c : Hid (∀ u ∈ ([.int .i64 t] : List Value), u.oneCell' = true) := Lib.hid (by simp [Value.oneCell'])
              generalize hlv : ((getL bk2 t).map ekI).getD (.int .i64 0) = lv at *
              have hl1 := Lib.hid (show bk.length ≤ bk2.length by rw [hb2.out]; exact nbr_len _ _ _)
              have htl2 := Lib.hid (show td2.length ≤ bk2.length by
                rw [htd2.out, List.length_append, List.length_map, List.length_drop]
                have h1 := htl.out
                have h2 := hl1.out
                omega)
              go_wp2_with (first | (at_lookup; refine wpList_lookup_map hV.out.to1 lawI und_back rfl (.tmp 32) (.tmp 33) true rfl (zero_int _) rfl t rfl ?_; rw [if_pos rfl, hh, hlv]) | (at_mapUpdate; refine wpList_mapUpdate_map hV.out.to1 lawI und_back rfl (.tmp 38) (.tmp 39) (.tmp 40) rfl rfl t at_ rfl rfl ?_; intro w3 q; rw [hput] at q; replace q := Lib.hid q) | (at_builtin; refine wpList_append_tl (q2.out.to2.allocG _) rfl _ _ 25 rfl i0 _ 8 Tryz.underlying25 hi0 hz0 hz1 hz2 rfl rfl (.int .i64 t) (SrcA.one _ _ _ _) h1u (by have := hbl.out; have := htl2.out; simp only [maxLen]; omega) (by have := hbl.out; have := htl2.out; omega) ?_; intro ga gc w5 q3; replace q3 := Lib.hid q3) | (at_builtin; refine wpList_append_sep (q.out.to2.allocG _) rfl _ _ 25 rfl i0 _ 8 Tryz.underlying25 hi0 hz0 hz1 hz2 rfl (by decide) rfl 1 [.int .i64 t] (SrcA.one _ _ _ _) h1c.out (by have := hbl.out; simp only [maxLen]; omega) (by have := hbl.out; omega) ?_; intro oa' oc' w4 q2; replace q2 := Lib.hid q2))
              obtain ⟨g9, k9, c9, _, hv9, _⟩ := q3.out.tl_blk
              injection hv9 with e1 _ e3
              injection e1 with e1
              subst e1 e3
              go_roundg (m - (j + 1))
              case measure => omega
              case rel =>
                refine ⟨j + 1, bk2 ++ [(t, at_)], td2 ++ [t], oa', oc', g9, k9, gc, by omega, rfl, by simp, by simp, by go_num, Lib.hid (by rw [hsn.out]), hok3, Lib.hid ?_, Lib.hid ?_⟩
                · rw [htd2.out, List.drop_append_of_le_length hl1.out, List.map_append, List.append_assoc]
                  rfl
                · have h := q3.out.to2.to1
                  simp only [List.length_append, List.length_cons, List.length_nil, Nat.zero_add, List.map_append, List.map_cons, List.map_nil, bcells] at h ⊢
                  exact h
          · have hjm : j = m := by omega
            subst hjm
            rw [show X.take j = X by rw [← hm.out, List.take_length]] at hb2
            have hl1 := Lib.hid (show bk.length ≤ bk2.length by rw [hb2.out]; exact nbr_len _ _ _)
            have hl2 := Lib.hid (show td2.length = td0.length + (bk2.length - bk.length) by rw [htd2.out, List.length_append, List.length_map, List.length_drop])
            have hl3 := Lib.hid (show bk2.length ≤ D by rw [← hDT.out]; exact okB_len hok2.out)
            have hst2 := Lib.hid (show ∃ s, ∀ f, bfs N (s + f) [] [from_] = bfs N f bk2 td2 by
              obtain ⟨s, h⟩ := hst.out
              refine ⟨s + 1, fun f => ?_⟩
              rw [show s + 1 + f = s + (f + 1) by omega, h, htd2.out, htd0.out, hb2.out, ← hX.out]
              rfl)
            go_wp2_with fail
            go_roundg (2 * (D - bk2.length) + td2.length)
            case measure =>
              have h1 := hl1.out
              have h2 := hl2.out
              have h3 := hl3.out
              have h4 := htl3.out
              omega
            case rel => exact ⟨bk2, td2, a5, c5, g6, k6, c6, rfl, rfl, rfl, by have h1 := hl1.out; have h2 := hl2.out; have h4 := htl.out; omega, hok2, hst2, Lib.hid hV.out.to2.to2⟩
      · have hV3 := hV2
        clear hV hV2
        obtain ⟨X, hX⟩ : ∃ X, Hid (rowL N at_ = X) := ⟨_, rfl⟩
        have hrl := Lib.hid (fun W rs' (h : Sep W (rowsR R :: rs')) => hLK.out W rs' h at_)
        simp only [hX.out] at hrl
        obtain ⟨_, ra, rc, hrv, _⟩ := hrl.out _ _ (hV3.out.bring 4 rfl)
        obtain ⟨m, hm⟩ : ∃ m, Hid (X.length = m) := ⟨_, rfl⟩
        have hmD : m ≤ D := by rw [← hm.out, ← hX.out, ← hDT.out, ← hT.out]; exact rowL_len at_ N
        rw [hm.out] at hrv
        simp only [hrv, hm.out] at hrl
        replace hrv := Lib.hid hrv
        replace hrl := Lib.hid hrl.out
        clear hc6 hc62
        go_wp2_with (at_lookup; refine wpList_lookup_map hV3.out.to3 lawI und_nx rfl (.tmp 23) (.tmp 24) false rfl (zero_ints _) rfl at_ rfl ?_; rw [if_neg (by simp), hrv.out])
        clear z0
        obtain ⟨td0, htd0⟩ : ∃ t, Hid (t = td) := ⟨_, rfl⟩
        have htl := Lib.hid (show td0.length ≤ bk.length by rw [htd0.out]; simp only [List.length_cons, List.length_nil] at htb ⊢; omega)
        have htl3 := Lib.hid (show td0.length < (at_ :: td).length by rw [htd0.out]; simp)
        go_loopg [5, 6, 27] m (fun gm s5 s6 s27 W => ∃ (j : Nat) (bk2 : List (Int × Int)) (td2 : List Int) (a5 : Option Addr) (c5 g6 k6 c6 : Nat), j ≤ m ∧ gm = m - j ∧ s5 = .slice a5 bk2.length c5 ∧ s6 = .slice (some ⟨g6, k6, none⟩) td2.length c6 ∧ s27 = .int .i64 j ∧ Hid (bk2 = nbr at_ (X.take j) bk) ∧ Hid (okB T bk2) ∧ Hid (td2 = td0 ++ (bk2.drop bk.length).map (·.1)) ∧ Hid (Sep W (tl 3 (.slice (some ⟨g6, k6, none⟩) td2.length c6) td2.length (td2.map (Value.int .i64)) :: mapr ekI ekI mb bk2 :: vec 3 1 (.slice a5 bk2.length c5) bk2.length (bcells bk2) :: mapr ekI (id : Value → Value) b es :: rowsR R :: rs)))
        case atStart => exact ⟨0, bk, td, a5, c5, g6, (k6 + 1), (c6 - 1), Nat.zero_le _, rfl, rfl, rfl, rfl, Lib.hid rfl, hok, Lib.hid (by rw [htd0.out]; simp), hV3⟩
        case round =>
          clear hV3
          obtain ⟨j, bk2, td2, a5, c5, g6, k6, c6, hj, hg2, rfl, rfl, rfl, hb2, hok2, htd2, hV⟩ := hrel
          by_cases hlt : j < m
          · obtain ⟨t, ht⟩ : ∃ t, X[j]? = some t := ⟨X[j]'(by rw [hm.out]; exact hlt), List.getElem?_eq_getElem _⟩
            obtain ⟨_, ra', rc', hre, _, _, hr⟩ := hrl.out _ _ (hV.out.bring 4 rfl)
            obtain ⟨rb, roff, hra, _, zz⟩ := hr (by omega)
            injection hre with e1 _ e3
            subst e1 e3 hra
            have z0 := zz j (.int .i64 t) (by rw [List.getElem?_map, ht]; rfl)
            clear zz hr
            have htT := Lib.hid (show t ∈ T by rw [← hT.out]; exact rowL_tgts (a := at_) (by rw [hX.out]; exact List.mem_of_getElem? ht))
            have hsn := Lib.hid (show nbr at_ (X.take (j + 1)) bk = if hasL bk2 t then bk2 else bk2 ++ [(t, at_)] by rw [List.take_add_one, ht, Option.toList_some, nbr_snoc, ← hb2.out])
            have i1 : (0 : Int) ≤ (j : Int) := by omega
            have i2 : (j : Int) < (m : Int) := by omega
            replace ht := Lib.hid ht
            cases hh : hasL bk2 t with
            | true =>
              rw [hh, if_pos rfl] at hsn
              generalize hlv : ((getL bk2 t).map ekI).getD (.int .i64 0) = lv at *
              go_wp2_with (at_lookup; refine wpList_lookup_map hV.out.to1 lawI und_back rfl (.tmp 32) (.tmp 33) true rfl (zero_int _) rfl t rfl ?_; rw [if_pos rfl, hh, hlv])
              go_roundg (m - (j + 1))
              case measure => omega
              case rel => exact ⟨j + 1, bk2, td2, a5, c5, g6, k6, c6, by omega, rfl, rfl, rfl, by go_num, Lib.hid (by rw [hsn.out]), hok2, htd2, hV⟩
            | false =>
              rw [hh, if_neg (by simp)] at hsn
              have hok3 := Lib.hid (okB_snoc (a := at_) hok2.out htT.out hh)
              have hbl := Lib.hid (show bk2.length + 1 ≤ D by have h := okB_len hok3.out; rw [hDT.out] at h; simpa using h)
              have hput : putL bk2 t at_ = bk2 ++ [(t, at_)] := by unfold putL; rw [hh]; rfl
              have h1u : (Value.int .i64 t).oneCell' = true := rfl
              have h1c : Hid (∀ u ∈ ([.int .i64 t] : List Value), u.oneCell' = true) := Lib.hid (by simp [Value.oneCell'])
              generalize hlv : ((getL bk2 t).map ekI).getD (.int .i64 0) = lv at *
              have hl1 := Lib.hid (show bk.length ≤ bk2.length by rw [hb2.out]; exact nbr_len _ _ _)
              have htl2 := Lib.hid (show td2.length ≤ bk2.length by
                rw [htd2.out, List.length_append, List.length_map, List.length_drop]
                have h1 := htl.out
                have h2 := hl1.out
                omega)
              go_wp2_with (first | (at_lookup; refine wpList_lookup_map hV.out.to1 lawI und_back rfl (.tmp 32) (.tmp 33) true rfl (zero_int _) rfl t rfl ?_; rw [if_pos rfl, hh, hlv]) | (at_mapUpdate; refine wpList_mapUpdate_map hV.out.to1 lawI und_back rfl (.tmp 38) (.tmp 39) (.tmp 40) rfl rfl t at_ rfl rfl ?_; intro w3 q; rw [hput] at q; replace q := Lib.hid q) | (at_builtin; refine wpList_append_tl (q2.out.to2.allocG _) rfl _ _ 25 rfl i0 _ 8 Tryz.underlying25 hi0 hz0 hz1 hz2 rfl rfl (.int .i64 t) (SrcA.one _ _ _ _) h1u (by have := hbl.out; have := htl2.out; simp only [maxLen]; omega) (by have := hbl.out; have := htl2.out; omega) ?_; intro ga gc w5 q3; replace q3 := Lib.hid q3) | (at_builtin; refine wpList_append_sep (q.out.to2.allocG _) rfl _ _ 25 rfl i0 _ 8 Tryz.underlying25 hi0 hz0 hz1 hz2 rfl (by decide) rfl 1 [.int .i64 t] (SrcA.one _ _ _ _) h1c.out (by have := hbl.out; simp only [maxLen]; omega) (by have := hbl.out; omega) ?_; intro oa' oc' w4 q2; replace q2 := Lib.hid q2))
              obtain ⟨g9, k9, c9, _, hv9, _⟩ := q3.out.tl_blk
              injection hv9 with e1 _ e3
              injection e1 with e1
              subst e1 e3
              go_roundg (m - (j + 1))
              case measure => omega
              case rel =>
                refine ⟨j + 1, bk2 ++ [(t, at_)], td2 ++ [t], oa', oc', g9, k9, gc, by omega, rfl, by simp, by simp, by go_num, Lib.hid (by rw [hsn.out]), hok3, Lib.hid ?_, Lib.hid ?_⟩
                · rw [htd2.out, List.drop_append_of_le_length hl1.out, List.map_append, List.append_assoc]
                  rfl
                · have h := q3.out.to2.to1
                  simp only [List.length_append, List.length_cons, List.length_nil, Nat.zero_add, List.map_append, List.map_cons, List.map_nil, bcells] at h ⊢
                  exact h
          · have hjm : j = m := by omega
            subst hjm
            rw [show X.take j = X by rw [← hm.out, List.take_length]] at hb2
            have hl1 := Lib.hid (show bk.length ≤ bk2.length by rw [hb2.out]; exact nbr_len _ _ _)
            have hl2 := Lib.hid (show td2.length = td0.length + (bk2.length - bk.length) by rw [htd2.out, List.length_append, List.length_map, List.length_drop])
            have hl3 := Lib.hid (show bk2.length ≤ D by rw [← hDT.out]; exact okB_len hok2.out)
            have hst2 := Lib.hid (show ∃ s, ∀ f, bfs N (s + f) [] [from_] = bfs N f bk2 td2 by
              obtain ⟨s, h⟩ := hst.out
              refine ⟨s + 1, fun f => ?_⟩
              rw [show s + 1 + f = s + (f + 1) by omega, h, htd2.out, htd0.out, hb2.out, ← hX.out]
              rfl)
            go_wp2_with fail
            go_roundg (2 * (D - bk2.length) + td2.length)
            case measure =>
              have h1 := hl1.out
              have h2 := hl2.out
              have h3 := hl3.out
              have h4 := htl3.out
              omega
            case rel => exact ⟨bk2, td2, a5, c5, g6, k6, c6, rfl, rfl, rfl, by have h1 := hl1.out; have h2 := hl2.out; have h4 := htl.out; omega, hok2, hst2, Lib.hid hV.out.to2.to2⟩
end Go.Proofs.YtcnkmhfcgkbhbaaGreat
namespace Go.Proofs.YtcnkmhfcgkbhbaaGreat
open Go.RowKit
def onE (txn : Int) (e : Ed) : Bool := e.from_ == txn || e.tgt == txn
set_option maxHeartbeats 4000000 in
theorem pred_wo (tb : Nat) (txn : Int) (rs : List Res) : PredC_ed 34 #[.pointer (some ⟨tb, 0, none⟩)] (onE txn) (blk tb 3 #[.int .i64 txn] :: rs) := by
  intro W r hS
  obtain ⟨fr, tgt⟩ := r
  have hB := Lib.hid (hS.alloc #[.int .i64 fr, .int .i64 tgt] 30)
  have hBel := Lib.hid (((Sep.start W).alloc #[.int .i64 fr, .int .i64 tgt] 30).tail.gold)
  obtain ⟨_, c0, c1, _⟩ := hB.out.b2
  obtain ⟨_, d0, _⟩ := hB.out.to1.b1
  clear hS hB
  unfold val_ed onE
  simp only
  cases h1 : fr == txn with
  | true =>
    go_enter Tryz.func34, Tryz.ntmps34
    go_wp2_with fail
    go_ret
    exact ⟨rfl, hBel.out⟩
  | false =>
    go_enter Tryz.func34, Tryz.ntmps34
    go_wp2_with fail
    go_ret
    exact ⟨by simp, hBel.out⟩
set_option maxHeartbeats 4000000 in
theorem without_any (v : Value) (L : List Ed) (txn : Int) (w : World) (hv : RL w v 2 L.length (L.flatMap Ed.cells)) (hl : L.length ≤ 1000) :
    Calls Tryz.prog 16 #[v, .int .i64 txn] w fun e w' => ∃ a c, e = .returned (.slice a (keepL (onE txn) L).length c) ∧ Sep w' [vec 30 2 (.slice a (keepL (onE txn) L).length c) (keepL (onE txn) L).length ((keepL (onE txn) L).flatMap Ed.cells), old w] := by
  have HC := Lib.hid (fun W h => clone_ed v L W h (by omega))
  have h0 := Lib.hid ((Sep.start w).alloc #[.int .i64 txn] 3)
  replace hv := Lib.hid hv
  go_enter Tryz.func16, Tryz.ntmps16
  go_wp2_with fail
  refine (HC.out _ (hv.out.below h0.out.tail.gold)).mono ?_
  rintro e w1 ⟨a, c, rfl, q⟩
  have hV := Lib.hid (q.graft h0.out)
  clear q h0 HC hv
  generalize w.heap.size = tb at *
  go_wp2_with fail
  refine (deleteFunc_ed a L.length c L _ _ (onE txn) w1 _ hV.out rfl hl (pred_wo tb txn [old w]) (fun args w => by kernel_rfl)).mono ?_
  rintro e w2 ⟨rfl, q⟩
  replace q := Lib.hid q
  clear hV
  go_wp2_with fail
  go_ret
  exact ⟨a, c, rfl, q.out.drop1⟩
end Go.Proofs.YtcnkmhfcgkbhbaaGreat
namespace Go.Proofs.YtcnkmhfcgkbhbaaGreat
open Go.RowKit
theorem tgts_addE (R : List (Int × List Int)) (e : Ed) : (tgts (addE R e)).length = (tgts R).length + 1 := by
  unfold addE
  split
  · simp [tgts]
  · split
    · simp [tgts] <;> omega
    · simp [tgts] <;> omega
theorem tgts_fold : ∀ (S : List Ed) (R : List (Int × List Int)), (tgts (S.foldl addE R)).length = (tgts R).length + S.length
  | [], R => by simp
  | e :: S, R => by
    rw [List.foldl_cons, tgts_fold S, tgts_addE]
    simp only [List.length_cons]
    omega
theorem tgts_nx (L : List Ed) : (tgts (nxL L)).length ≤ L.length := by
  unfold nxL
  rw [tgts_fold]
  have := sdE_len L
  simp only [tgts, List.flatMap_nil, List.length_nil]
  omega
def srI (xs : List Int) : List Int := xs.mergeSort fun x y => decide (x ≤ y)
theorem srI_len (xs : List Int) : (srI xs).length = xs.length := (List.mergeSort_perm xs _).length_eq
theorem sortI_any (a : Option Addr) (n c : Nat) (xs : List Int) (w : World) (rs : List Res) (hS : Sep w (vec 3 1 (.slice a n c) n (xs.map (Value.int .i64)) :: rs)) (hl : xs.length = n) (hn : n ≤ 1000000) :
    Calls Tryz.prog 30 #[.slice a n c] w fun e w' => e = .returned (.tuple #[]) ∧ Sep w' (vec 3 1 (.slice a n c) n ((srI xs).map (Value.int .i64)) :: rs) := by
  by_cases h0 : 0 < n
  · exact sortPlain_any a n c xs w rs hS hl h0 hn
  · obtain rfl : n = 0 := by omega
    obtain rfl := List.eq_nil_of_length_eq_zero hl
    refine Calls.mono (show Calls Tryz.prog 30 _ w _ from Any.slices_Sort_int_none Tryz.sortPlain a c w) ?_
    rintro e w' ⟨rfl, rfl⟩
    exact ⟨rfl, by simpa [srI] using hS⟩
set_option maxHeartbeats 4000000 in
theorem reach_any (v : Value) (L : List Ed) (from_ : Int) (w : World) (hv : RL w v 2 L.length (L.flatMap Ed.cells)) (hl : L.length ≤ 1000) :
    Calls Tryz.prog 14 #[v, .int .i64 from_] w fun e w' => ∃ a c bk, e = .returned (.slice a bk.length c) ∧ (∃ s, ∀ f, bfs (nxL L) (s + f) [] [from_] = bk) ∧ bk.length ≤ L.length ∧
      Sep w' [vec 3 1 (.slice a bk.length c) bk.length ((srI (bk.map (·.1))).map (Value.int .i64)), old w] := by
  have HN := Lib.hid (nexts_any v L w hv hl)
  have htg := tgts_nx L
  clear hv
  go_enter Tryz.func14, Tryz.ntmps14
  go_wp2_with fail
  refine HN.out.mono ?_
  rintro e w1 ⟨b, es, R, rfl, hR, hN, hV⟩
  have HW := Lib.hid (ways_any b es R from_ w1 [old w] hV hN (by rw [hR]; omega))
  rw [hR] at HW
  clear HN hN hV hR
  go_wp2_with fail
  refine HW.out.mono ?_
  rintro e w2 ⟨mb, a, c, bk, rfl, hb, hbl, hV⟩
  rw [show bcells bk = (bk.map (·.1)).map (Value.int .i64) by simp [bcells]] at hV
  have HS := Lib.hid (sortI_any a bk.length c (bk.map (·.1)) w2 _ hV.to1 (by simp) (by omega))
  replace hb := Lib.hid hb
  clear HW hV
  go_wp2_with fail
  refine HS.out.mono ?_
  rintro e w3 ⟨rfl, hV⟩
  replace hV := Lib.hid hV
  clear HS
  go_wp2_with fail
  go_ret
  exact ⟨a, c, bk, rfl, hb.out, by omega, hV.out.drop1.drop1.drop1⟩
end Go.Proofs.YtcnkmhfcgkbhbaaGreat
