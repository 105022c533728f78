/-
  Contracts and plain laws that the walk leans on, part 5. No condition.
-/
import Derived.Test.YthbamhfnemdebaaGreatZVc4
import Derived.WalkMore
import Derived.Shelf.Slices.In.SortNone
import Derived.Test.YthbamhfnemdebaaGreatProg
import Derived.Test.YthbamhfnemdebaaGreatChecked
import Derived.Shelf.Slices.Reverse
import Derived.Ground.NamesProg
import Derived.Ground.Names2Prog
namespace Go.Proofs.YthbamhfnemdebaaGreat
open Go.RowKit
/-- One's neighbours gone through. -/
def nbr (a : Int) (ts : List Int) (bk : List (Int × Int)) : List (Int × Int) := ts.foldl (fun bk t => if hasL bk t then bk else bk ++ [(t, a)]) bk
def rowL (N : List (Int × List Int)) (a : Int) : List Int := ((N.find? fun p => decide (p.1 = a)).map (·.2)).getD []
/-- Nearest ones first: what is known, and who is still to be looked at. -/
def bfs (N : List (Int × List Int)) : Nat → List (Int × Int) → List Int → List (Int × Int)
  | 0, bk, _ => bk
  | _ + 1, bk, [] => bk
  | f + 1, bk, a :: todo => bfs N f (nbr a (rowL N a) bk) (todo ++ ((nbr a (rowL N a) bk).drop bk.length).map (·.1))
theorem bfs_nil (N : List (Int × List Int)) (f : Nat) (bk : List (Int × Int)) : bfs N f bk [] = bk := by cases f <;> rfl
theorem nbr_snoc (a : Int) (ts : List Int) (t : Int) (bk : List (Int × Int)) : nbr a (ts ++ [t]) bk = if hasL (nbr a ts bk) t then nbr a ts bk else nbr a ts bk ++ [(t, a)] := by
  unfold nbr
  rw [List.foldl_append]
  rfl
theorem nbr_len (a : Int) : ∀ (ts : List Int) (bk : List (Int × Int)), bk.length ≤ (nbr a ts bk).length
  | [], _ => Nat.le_refl _
  | t :: ts, bk => by
    have h := nbr_len a ts (if hasL bk t then bk else bk ++ [(t, a)])
    have h2 : bk.length ≤ (if hasL bk t then bk else bk ++ [(t, a)]).length := by
      split
      · exact Nat.le_refl _
      · simp
    exact Nat.le_trans h2 h
/-- What is known: each once, all of them targets. -/
def okB (T : List Int) (bk : List (Int × Int)) : Prop := (bk.map (·.1)).Nodup ∧ ∀ x ∈ bk.map (·.1), x ∈ T
theorem okB_nil (T : List Int) : okB T [] := ⟨by simp, by simp⟩
theorem okB_snoc {T : List Int} {bk : List (Int × Int)} {t a : Int} (h : okB T bk) (ht : t ∈ T) (hf : hasL bk t = false) : okB T (bk ++ [(t, a)]) := by
  have hn : t ∉ bk.map (·.1) := by rw [← hasL_iff, hf]; simp
  refine ⟨?_, fun x hx => ?_⟩
  · rw [List.map_append, List.nodup_append]
    refine ⟨h.1, by simp, fun x hx y hy => ?_⟩
    simp at hy
    subst hy
    rintro rfl
    exact hn hx
  · rw [List.map_append, List.mem_append] at hx
    rcases hx with hx | hx
    · exact h.2 x hx
    · simp at hx; subst hx; exact ht
theorem nodup_len : ∀ (l T : List Int), l.Nodup → (∀ x ∈ l, x ∈ T) → l.length ≤ T.length
  | [], _, _, _ => Nat.zero_le _
  | x :: l, T, hn, hs => by
    rw [List.nodup_cons] at hn
    have hx := hs x (List.mem_cons_self ..)
    have h := nodup_len l (T.erase x) hn.2 fun y hy => (List.mem_erase_of_ne (fun e : _ = x => hn.1 (by rw [← e]; exact hy))).2 (hs y (List.mem_cons_of_mem _ hy))
    rw [List.length_erase_of_mem hx] at h
    have := List.length_pos_of_mem hx
    simp only [List.length_cons]
    omega
theorem okB_len {T : List Int} {bk : List (Int × Int)} (h : okB T bk) : bk.length ≤ T.length := by
  have := nodup_len _ T h.1 h.2
  simpa using this
/-- All targets of some rows. -/
def tgts (N : List (Int × List Int)) : List Int := N.flatMap (·.2)
theorem rowL_tgts {N : List (Int × List Int)} {a t : Int} (h : t ∈ rowL N a) : t ∈ tgts N := by
  unfold rowL at h
  cases hf : N.find? (fun p => decide (p.1 = a)) with
  | none => rw [hf] at h; simp at h
  | some p =>
    rw [hf] at h
    exact List.mem_flatMap.2 ⟨p, List.mem_of_find?_eq_some hf, by simpa using h⟩
theorem rowL_len (a : Int) : ∀ N : List (Int × List Int), (rowL N a).length ≤ (tgts N).length
  | [] => Nat.zero_le _
  | p :: N => by
    have h := rowL_len a N
    have e : tgts (p :: N) = p.2 ++ tgts N := by simp [tgts]
    rw [e, List.length_append]
    unfold rowL at h ⊢
    rw [List.find?_cons]
    cases hd : decide (p.1 = a) with
    | true => simp
    | false => simp only; omega
theorem rows_rl {W : World} : ∀ {R : List Row} {rs : List Res}, Sep W (rowsR R :: rs) → ∀ r ∈ R, RL W r.2.1 1 r.2.2.length (r.2.2.map (Value.int .i64))
  | [], _, _, r, hr => by simp at hr
  | q :: R, rs, h, r, hr => by
    have h2 := Sep.gstar.1 h
    rcases List.mem_cons.1 hr with rfl | hr
    · exact h2.vec_rl
    · exact rows_rl h2.tail r hr
theorem look_rl {W : World} {es : List (Int × Value)} {R : List Row} {rs : List Res} (hS : Sep W (rowsR R :: rs)) (hN : NX es R) (a : Int) :
    RL W (((getL es a).map (id : Value → Value)).getD (.slice none 0 0)) 1 (rowL (rowsP R) a).length ((rowL (rowsP R) a).map (Value.int .i64)) := by
  have hf : (rowsP R).find? (fun p => decide (p.1 = a)) = (rowOf R a).map fun r => (r.1, r.2.2) := by
    unfold rowsP rowOf
    rw [List.find?_map]
    rfl
  rw [hN a]
  unfold rowL
  rw [hf]
  cases hr : rowOf R a with
  | none => exact RL.nil W 1
  | some r => exact rows_rl hS r (List.mem_of_find?_eq_some hr)
theorem und_back : Tryz.prog.underlying 68 = some (.map 3 3) := by kernel_rfl
theorem zero_int (w : World) : (zeroValue 3).run Tryz.prog w = .ok (.int .i64 0) w := by kernel_rfl
def bcells (bk : List (Int × Int)) : List Value := bk.map fun p => Value.int .i64 p.1
set_option maxHeartbeats 4000000 in
set_option maxRecDepth 100000 in
theorem ways_any (b : Nat) (es : List (Int × Value)) (R : List Row) (from_ : Int) (w : World) (rs : List Res) (hS : Sep w (mapr ekI (id : Value → Value) b es :: rowsR R :: rs)) (hN : NX es R) (hD : (tgts (rowsP R)).length ≤ 1000) :
    Calls Tryz.prog 39 #[.map (some b), .int .i64 from_] w fun e w' => ∃ mb a c bk, e = .returned (.tuple #[.map (some mb), .slice a bk.length c]) ∧ (∃ s, ∀ f, bfs (rowsP R) (s + f) [] [from_] = bk) ∧ bk.length ≤ (tgts (rowsP R)).length ∧
      Sep w' (mapr ekI ekI mb bk :: vec 3 1 (.slice a bk.length c) bk.length (bcells bk) :: mapr ekI (id : Value → Value) b es :: rowsR R :: rs) := by
  have hmm := @run_makeMap Tryz.prog
  obtain ⟨i0, hi0, hz0, hz1, hz2⟩ := info_parts info_int
  have hLK := Lib.hid (fun W rs' (h : Sep W (rowsR R :: rs')) a => look_rl h hN a)
  obtain ⟨N, hNR⟩ : ∃ N, rowsP R = N := ⟨_, rfl⟩
  rw [hNR] at hD
  simp only [hNR] at hLK ⊢
  obtain ⟨T, hT⟩ : ∃ T, Hid (tgts N = T) := ⟨_, rfl⟩
  rw [hT.out] at hD ⊢
  obtain ⟨D, hDT⟩ : ∃ D, Hid (T.length = D) := ⟨_, rfl⟩
  rw [hDT.out] at hD ⊢
  replace hLK := Lib.hid hLK.out
  have hM := Lib.hid (((hS.map_new ekI ekI).alloc #[.int .i64 from_] 3))
  clear hNR hN hS
  go_enter Tryz.func39, Tryz.ntmps39
  go_wp2_with fail
  go_step3
  go_wp2_with fail
  clear hmm
  simp only [World.size_alloc] at hM
  have hV0 := Lib.hid ((((hM.out.blk_tl (k := 0) (n := 1) (c := 1) (xs := [.int .i64 from_]) (Nat.le_refl _) (by decide) (by simp) rfl).vec_nil 3 1)).to2)
  clear hM
  have h00 : Hid (∀ f, bfs N (0 + f) [] [from_] = bfs N f [] [from_]) := Lib.hid (fun f => by rw [Nat.zero_add])
  go_step3
  go_wp2_with fail
  generalize w.heap.size + 1 = tb at *
  generalize w.heap.size = mb at *
  go_loopg [5, 6] (2 * D + 1) (fun gm s5 s6 W => ∃ (bk : List (Int × Int)) (td : List Int) (a5 : Option Addr) (c5 g6 k6 c6 : Nat), gm = 2 * (D - bk.length) + td.length ∧ s5 = .slice a5 bk.length c5 ∧ s6 = .slice (some ⟨g6, k6, none⟩) td.length c6 ∧ td.length ≤ bk.length + 1 ∧ Hid (okB T bk) ∧ Hid (∃ s, ∀ f, bfs N (s + f) [] [from_] = bfs N f bk td) ∧ Hid (Sep W (mapr ekI ekI mb bk :: vec 3 1 (.slice a5 bk.length c5) bk.length (bcells bk) :: tl 3 (.slice (some ⟨g6, k6, none⟩) td.length c6) td.length (td.map (Value.int .i64)) :: mapr ekI (id : Value → Value) b es :: rowsR R :: rs)))
  case atStart => exact ⟨[], [from_], none, 0, tb, 0, 1, by simp, rfl, rfl, by simp, Lib.hid (okB_nil T), Lib.hid ⟨0, h00.out⟩, hV0⟩
  case round =>
    clear hV0 h00
    obtain ⟨bk, td, a5, c5, g6, k6, c6, hg, rfl, rfl, htb, hok, hst, hV⟩ := hrel
    cases td with
    | nil =>
      have hfin := Lib.hid (show ∃ s, ∀ f, bfs N (s + f) [] [from_] = bk by obtain ⟨s, h⟩ := hst.out; exact ⟨s, fun f => by rw [h, bfs_nil]⟩)
      have hbl := Lib.hid (show bk.length ≤ D by rw [← hDT.out]; exact okB_len hok.out)
      have h0 : (([] : List Int).length : Int) = 0 := rfl
      clear hst hok
      go_wp2_with fail
      simp only [Exit.noGoto_ret]
      refine bodyPost_ret (v := .tuple #[.map (some mb), .slice a5 bk.length c5]) (by simp [results, Tryz.results39, go_sem, *]) rfl ⟨mb, a5, c5, bk, rfl, hfin.out, hbl.out, hV.out.drop2⟩
    | cons at_ td =>
      have hz : (((at_ :: td).length : Nat) : Int) = (td.length : Int) + 1 := by simp
      have hne : ¬ ((td.length : Int) + 1 = 0) := by omega
      obtain ⟨z0, hc6, hV2⟩ := (show Sep _ (tl _ (.slice (some ⟨g6, k6, none⟩) (td.length + 1) c6) (td.length + 1) (.int .i64 at_ :: td.map (Value.int .i64)) :: _) from hV.out.to2).tl_head
      replace hV2 := Lib.hid hV2
      have hc62 : c6 = 1 → td.length = 0 := by omega
      by_cases hc1 : c6 = 1
      · subst hc1
        obtain rfl := List.eq_nil_of_length_eq_zero (hc62 rfl)
        have hV3 := Lib.hid (show Sep wr (tl 3 (.slice (some ⟨g6, k6, none⟩) 0 0) 0 [] :: mapr ekI ekI mb bk :: vec 3 1 (.slice a5 bk.length c5) bk.length (bcells bk) :: mapr ekI (id : Value → Value) b es :: rowsR R :: rs) by
          obtain ⟨g', k', c', cur, hv, hB, a1, a2, a3, a4, a5'⟩ := hV2.out.tl_blk
          injection hv with e1 e2 e3
          injection e1 with e1
          injection e1 with e1 e1'
          subst e1 e1' e3
          exact hB.blk_tl (by omega) (by decide) (by omega) rfl)
        clear hV hV2
        obtain ⟨X, hX⟩ : ∃ X, Hid (rowL N at_ = X) := ⟨_, rfl⟩
        have hrl := Lib.hid (fun W rs' (h : Sep W (rowsR R :: rs')) => hLK.out W rs' h at_)
        simp only [hX.out] at hrl
        obtain ⟨_, ra, rc, hrv, _⟩ := hrl.out _ _ (hV3.out.bring 4 rfl)
        obtain ⟨m, hm⟩ : ∃ m, Hid (X.length = m) := ⟨_, rfl⟩
        have hmD : m ≤ D := by rw [← hm.out, ← hX.out, ← hDT.out, ← hT.out]; exact rowL_len at_ N
        rw [hm.out] at hrv
        simp only [hrv, hm.out] at hrl
        replace hrv := Lib.hid hrv
        replace hrl := Lib.hid hrl.out
        clear hc6 hc62
        go_wp2_with (at_lookup; refine wpList_lookup_map hV3.out.to3 lawI und_nx rfl (.tmp 23) (.tmp 24) false rfl (zero_ints _) rfl at_ rfl ?_; rw [if_neg (by simp), hrv.out])
        clear z0
        obtain ⟨td0, htd0⟩ : ∃ t : List Int, Hid (t = []) := ⟨_, rfl⟩
        have htl := Lib.hid (show td0.length ≤ bk.length by rw [htd0.out]; simp only [List.length_cons, List.length_nil] at htb ⊢; omega)
        have htl3 := Lib.hid (show td0.length < (at_ :: []).length by rw [htd0.out]; simp)
        go_loopg [5, 6, 27] m (fun gm s5 s6 s27 W => ∃ (j : Nat) (bk2 : List (Int × Int)) (td2 : List Int) (a5 : Option Addr) (c5 g6 k6 c6 : Nat), j ≤ m ∧ gm = m - j ∧ s5 = .slice a5 bk2.length c5 ∧ s6 = .slice (some ⟨g6, k6, none⟩) td2.length c6 ∧ s27 = .int .i64 j ∧ Hid (bk2 = nbr at_ (X.take j) bk) ∧ Hid (okB T bk2) ∧ Hid (td2 = td0 ++ (bk2.drop bk.length).map (·.1)) ∧ Hid (Sep W (tl 3 (.slice (some ⟨g6, k6, none⟩) td2.length c6) td2.length (td2.map (Value.int .i64)) :: mapr ekI ekI mb bk2 :: vec 3 1 (.slice a5 bk2.length c5) bk2.length (bcells bk2) :: mapr ekI (id : Value → Value) b es :: rowsR R :: rs)))
        case atStart => exact ⟨0, bk, [], a5, c5, g6, k6, 0, Nat.zero_le _, rfl, rfl, rfl, rfl, Lib.hid rfl, hok, Lib.hid (by rw [htd0.out]; simp), hV3⟩
        case round =>
          clear hV3
          obtain ⟨j, bk2, td2, a5, c5, g6, k6, c6, hj, hg2, rfl, rfl, rfl, hb2, hok2, htd2, hV⟩ := hrel
          by_cases hlt : j < m
          · obtain ⟨t, ht⟩ : ∃ t, X[j]? = some t := ⟨X[j]'(by rw [hm.out]; exact hlt), List.getElem?_eq_getElem _⟩
            obtain ⟨_, ra', rc', hre, _, _, hr⟩ := hrl.out _ _ (hV.out.bring 4 rfl)
            obtain ⟨rb, roff, hra, _, zz⟩ := hr (by omega)
            injection hre with e1 _ e3
            subst e1 e3 hra
            have z0 := zz j (.int .i64 t) (by rw [List.getElem?_map, ht]; rfl)
            clear zz hr
            have htT := Lib.hid (show t ∈ T by rw [← hT.out]; exact rowL_tgts (a := at_) (by rw [hX.out]; exact List.mem_of_getElem? ht))
            have hsn := Lib.hid (show nbr at_ (X.take (j + 1)) bk = if hasL bk2 t then bk2 else bk2 ++ [(t, at_)] by rw [List.take_add_one, ht, Option.toList_some, nbr_snoc, ← hb2.out])
            have i1 : (0 : Int) ≤ (j : Int) := by omega
            have i2 : (j : Int) < (m : Int) := by omega
            replace ht := Lib.hid ht
            cases hh : hasL bk2 t with
            | true =>
              rw [hh, if_pos rfl] at hsn
              generalize hlv : ((getL bk2 t).map ekI).getD (.int .i64 0) = lv at *
              go_wp2_with (at_lookup; refine wpList_lookup_map hV.out.to1 lawI und_back rfl (.tmp 32) (.tmp 33) true rfl (zero_int _) rfl t rfl ?_; rw [if_pos rfl, hh, hlv])
              go_roundg (m - (j + 1))
              case measure => omega
              case rel => exact ⟨j + 1, bk2, td2, a5, c5, g6, k6, c6, by omega, rfl, rfl, rfl, by go_num, Lib.hid (by rw [hsn.out]), hok2, htd2, hV⟩
            | false =>
              rw [hh, if_neg (by simp)] at hsn
              have hok3 := Lib.hid (okB_snoc (a := at_) hok2.out htT.out hh)
              have hbl := Lib.hid (show bk2.length + 1 ≤ D by have h := okB_len hok3.out; rw [hDT.out] at h; simpa using h)
              have hput : putL bk2 t at_ = bk2 ++ [(t, at_)] := by unfold putL; rw [hh]; rfl
              have h1u : (Value.int .i64 t).oneCell' = true := rfl
              have h1c : Hid (∀ u ∈ ([.int .i64 t] : List Value), u.oneCell' = true) := Lib.hid (by simp [Value.oneCell'])
              generalize hlv : ((getL bk2 t).map ekI).getD (.int .i64 0) = lv at *
              have hl1 := Lib.hid (show bk.length ≤ bk2.length by rw [hb2.out]; exact nbr_len _ _ _)
              have htl2 := Lib.hid (show td2.length ≤ bk2.length by
                rw [htd2.out, List.length_append, List.length_map, List.length_drop]
                have h1 := htl.out
                have h2 := hl1.out
                omega)
              go_wp2_with (first | (at_lookup; refine wpList_lookup_map hV.out.to1 lawI und_back rfl (.tmp 32) (.tmp 33) true rfl (zero_int _) rfl t rfl ?_; rw [if_pos rfl, hh, hlv]) | (at_mapUpdate; refine wpList_mapUpdate_map hV.out.to1 lawI und_back rfl (.tmp 38) (.tmp 39) (.tmp 40) rfl rfl t at_ rfl rfl ?_; intro w3 q; rw [hput] at q; replace q := Lib.hid q) | (at_builtin; refine wpList_append_tl (q2.out.to2.allocG _) rfl _ _ 24 rfl i0 _ 8 Tryz.underlying24 hi0 hz0 hz1 hz2 rfl rfl (.int .i64 t) (SrcA.one _ _ _ _) h1u (by have := hbl.out; have := htl2.out; simp only [maxLen]; omega) (by have := hbl.out; have := htl2.out; omega) ?_; intro ga gc w5 q3; replace q3 := Lib.hid q3) | (at_builtin; refine wpList_append_sep (q.out.to2.allocG _) rfl _ _ 24 rfl i0 _ 8 Tryz.underlying24 hi0 hz0 hz1 hz2 rfl (by decide) rfl 1 [.int .i64 t] (SrcA.one _ _ _ _) h1c.out (by have := hbl.out; simp only [maxLen]; omega) (by have := hbl.out; omega) ?_; intro oa' oc' w4 q2; replace q2 := Lib.hid q2))
              obtain ⟨g9, k9, c9, _, hv9, _⟩ := q3.out.tl_blk
              injection hv9 with e1 _ e3
              injection e1 with e1
              subst e1 e3
              go_roundg (m - (j + 1))
              case measure => omega
              case rel =>
                refine ⟨j + 1, bk2 ++ [(t, at_)], td2 ++ [t], oa', oc', g9, k9, gc, by omega, rfl, by simp, by simp, by go_num, Lib.hid (by rw [hsn.out]), hok3, Lib.hid ?_, Lib.hid ?_⟩
                · rw [htd2.out, List.drop_append_of_le_length hl1.out, List.map_append, List.append_assoc]
                  rfl
                · have h := q3.out.to2.to1
                  simp only [List.length_append, List.length_cons, List.length_nil, Nat.zero_add, List.map_append, List.map_cons, List.map_nil, bcells] at h ⊢
                  exact h
          · have hjm : j = m := by omega
            subst hjm
            rw [show X.take j = X by rw [← hm.out, List.take_length]] at hb2
            have hl1 := Lib.hid (show bk.length ≤ bk2.length by rw [hb2.out]; exact nbr_len _ _ _)
            have hl2 := Lib.hid (show td2.length = td0.length + (bk2.length - bk.length) by rw [htd2.out, List.length_append, List.length_map, List.length_drop])
            have hl3 := Lib.hid (show bk2.length ≤ D by rw [← hDT.out]; exact okB_len hok2.out)
            have hst2 := Lib.hid (show ∃ s, ∀ f, bfs N (s + f) [] [from_] = bfs N f bk2 td2 by
              obtain ⟨s, h⟩ := hst.out
              refine ⟨s + 1, fun f => ?_⟩
              rw [show s + 1 + f = s + (f + 1) by omega, h, htd2.out, htd0.out, hb2.out, ← hX.out]
              rfl)
            go_wp2_with fail
            go_roundg (2 * (D - bk2.length) + td2.length)
            case measure =>
              have h1 := hl1.out
              have h2 := hl2.out
              have h3 := hl3.out
              have h4 := htl3.out
              omega
            case rel => exact ⟨bk2, td2, a5, c5, g6, k6, c6, rfl, rfl, rfl, by have h1 := hl1.out; have h2 := hl2.out; have h4 := htl.out; omega, hok2, hst2, Lib.hid hV.out.to2.to2⟩
      · have hV3 := hV2
        clear hV hV2
        obtain ⟨X, hX⟩ : ∃ X, Hid (rowL N at_ = X) := ⟨_, rfl⟩
        have hrl := Lib.hid (fun W rs' (h : Sep W (rowsR R :: rs')) => hLK.out W rs' h at_)
        simp only [hX.out] at hrl
        obtain ⟨_, ra, rc, hrv, _⟩ := hrl.out _ _ (hV3.out.bring 4 rfl)
        obtain ⟨m, hm⟩ : ∃ m, Hid (X.length = m) := ⟨_, rfl⟩
        have hmD : m ≤ D := by rw [← hm.out, ← hX.out, ← hDT.out, ← hT.out]; exact rowL_len at_ N
        rw [hm.out] at hrv
        simp only [hrv, hm.out] at hrl
        replace hrv := Lib.hid hrv
        replace hrl := Lib.hid hrl.out
        clear hc6 hc62
        go_wp2_with (at_lookup; refine wpList_lookup_map hV3.out.to3 lawI und_nx rfl (.tmp 23) (.tmp 24) false rfl (zero_ints _) rfl at_ rfl ?_; rw [if_neg (by simp), hrv.out])
        clear z0
        obtain ⟨td0, htd0⟩ : ∃ t, Hid (t = td) := ⟨_, rfl⟩
        have htl := Lib.hid (show td0.length ≤ bk.length by rw [htd0.out]; simp only [List.length_cons, List.length_nil] at htb ⊢; omega)
        have htl3 := Lib.hid (show td0.length < (at_ :: td).length by rw [htd0.out]; simp)
        go_loopg [5, 6, 27] m (fun gm s5 s6 s27 W => ∃ (j : Nat) (bk2 : List (Int × Int)) (td2 : List Int) (a5 : Option Addr) (c5 g6 k6 c6 : Nat), j ≤ m ∧ gm = m - j ∧ s5 = .slice a5 bk2.length c5 ∧ s6 = .slice (some ⟨g6, k6, none⟩) td2.length c6 ∧ s27 = .int .i64 j ∧ Hid (bk2 = nbr at_ (X.take j) bk) ∧ Hid (okB T bk2) ∧ Hid (td2 = td0 ++ (bk2.drop bk.length).map (·.1)) ∧ Hid (Sep W (tl 3 (.slice (some ⟨g6, k6, none⟩) td2.length c6) td2.length (td2.map (Value.int .i64)) :: mapr ekI ekI mb bk2 :: vec 3 1 (.slice a5 bk2.length c5) bk2.length (bcells bk2) :: mapr ekI (id : Value → Value) b es :: rowsR R :: rs)))
        case atStart => exact ⟨0, bk, td, a5, c5, g6, (k6 + 1), (c6 - 1), Nat.zero_le _, rfl, rfl, rfl, rfl, Lib.hid rfl, hok, Lib.hid (by rw [htd0.out]; simp), hV3⟩
        case round =>
          clear hV3
          obtain ⟨j, bk2, td2, a5, c5, g6, k6, c6, hj, hg2, rfl, rfl, rfl, hb2, hok2, htd2, hV⟩ := hrel
          by_cases hlt : j < m
          · obtain ⟨t, ht⟩ : ∃ t, X[j]? = some t := ⟨X[j]'(by rw [hm.out]; exact hlt), List.getElem?_eq_getElem _⟩
            obtain ⟨_, ra', rc', hre, _, _, hr⟩ := hrl.out _ _ (hV.out.bring 4 rfl)
            obtain ⟨rb, roff, hra, _, zz⟩ := hr (by omega)
            injection hre with e1 _ e3
            subst e1 e3 hra
            have z0 := zz j (.int .i64 t) (by rw [List.getElem?_map, ht]; rfl)
            clear zz hr
            have htT := Lib.hid (show t ∈ T by rw [← hT.out]; exact rowL_tgts (a := at_) (by rw [hX.out]; exact List.mem_of_getElem? ht))
            have hsn := Lib.hid (show nbr at_ (X.take (j + 1)) bk = if hasL bk2 t then bk2 else bk2 ++ [(t, at_)] by rw [List.take_add_one, ht, Option.toList_some, nbr_snoc, ← hb2.out])
            have i1 : (0 : Int) ≤ (j : Int) := by omega
            have i2 : (j : Int) < (m : Int) := by omega
            replace ht := Lib.hid ht
            cases hh : hasL bk2 t with
            | true =>
              rw [hh, if_pos rfl] at hsn
              generalize hlv : ((getL bk2 t).map ekI).getD (.int .i64 0) = lv at *
              go_wp2_with (at_lookup; refine wpList_lookup_map hV.out.to1 lawI und_back rfl (.tmp 32) (.tmp 33) true rfl (zero_int _) rfl t rfl ?_; rw [if_pos rfl, hh, hlv])
              go_roundg (m - (j + 1))
              case measure => omega
              case rel => exact ⟨j + 1, bk2, td2, a5, c5, g6, k6, c6, by omega, rfl, rfl, rfl, by go_num, Lib.hid (by rw [hsn.out]), hok2, htd2, hV⟩
            | false =>
              rw [hh, if_neg (by simp)] at hsn
              have hok3 := Lib.hid (okB_snoc (a := at_) hok2.out htT.out hh)
              have hbl := Lib.hid (show bk2.length + 1 ≤ D by have h := okB_len hok3.out; rw [hDT.out] at h; simpa using h)
              have hput : putL bk2 t at_ = bk2 ++ [(t, at_)] := by unfold putL; rw [hh]; rfl
              have h1u : (Value.int .i64 t).oneCell' = true := rfl
              have h1c : Hid (∀ u ∈ ([.int .i64 t] : List Value), u.oneCell' = true) := Lib.hid (by simp [Value.oneCell'])
              generalize hlv : ((getL bk2 t).map ekI).getD (.int .i64 0) = lv at *
              have hl1 := Lib.hid (show bk.length ≤ bk2.length by rw [hb2.out]; exact nbr_len _ _ _)
              have htl2 := Lib.hid (show td2.length ≤ bk2.length by
                rw [htd2.out, List.length_append, List.length_map, List.length_drop]
                have h1 := htl.out
                have h2 := hl1.out
                omega)
              go_wp2_with (first | (at_lookup; refine wpList_lookup_map hV.out.to1 lawI und_back rfl (.tmp 32) (.tmp 33) true rfl (zero_int _) rfl t rfl ?_; rw [if_pos rfl, hh, hlv]) | (at_mapUpdate; refine wpList_mapUpdate_map hV.out.to1 lawI und_back rfl (.tmp 38) (.tmp 39) (.tmp 40) rfl rfl t at_ rfl rfl ?_; intro w3 q; rw [hput] at q; replace q := Lib.hid q) | (at_builtin; refine wpList_append_tl (q2.out.to2.allocG _) rfl _ _ 24 rfl i0 _ 8 Tryz.underlying24 hi0 hz0 hz1 hz2 rfl rfl (.int .i64 t) (SrcA.one _ _ _ _) h1u (by have := hbl.out; have := htl2.out; simp only [maxLen]; omega) (by have := hbl.out; have := htl2.out; omega) ?_; intro ga gc w5 q3; replace q3 := Lib.hid q3) | (at_builtin; refine wpList_append_sep (q.out.to2.allocG _) rfl _ _ 24 rfl i0 _ 8 Tryz.underlying24 hi0 hz0 hz1 hz2 rfl (by decide) rfl 1 [.int .i64 t] (SrcA.one _ _ _ _) h1c.out (by have := hbl.out; simp only [maxLen]; omega) (by have := hbl.out; omega) ?_; intro oa' oc' w4 q2; replace q2 := Lib.hid q2))
              obtain ⟨g9, k9, c9, _, hv9, _⟩ := q3.out.tl_blk
              injection hv9 with e1 _ e3
              injection e1 with e1
              subst e1 e3
              go_roundg (m - (j + 1))
              case measure => omega
              case rel =>
                refine ⟨j + 1, bk2 ++ [(t, at_)], td2 ++ [t], oa', oc', g9, k9, gc, by omega, rfl, by simp, by simp, by go_num, Lib.hid (by rw [hsn.out]), hok3, Lib.hid ?_, Lib.hid ?_⟩
                · rw [htd2.out, List.drop_append_of_le_length hl1.out, List.map_append, List.append_assoc]
                  rfl
                · have h := q3.out.to2.to1
                  simp only [List.length_append, List.length_cons, List.length_nil, Nat.zero_add, List.map_append, List.map_cons, List.map_nil, bcells] at h ⊢
                  exact h
          · have hjm : j = m := by omega
            subst hjm
            rw [show X.take j = X by rw [← hm.out, List.take_length]] at hb2
            have hl1 := Lib.hid (show bk.length ≤ bk2.length by rw [hb2.out]; exact nbr_len _ _ _)
            have hl2 := Lib.hid (show td2.length = td0.length + (bk2.length - bk.length) by rw [htd2.out, List.length_append, List.length_map, List.length_drop])
            have hl3 := Lib.hid (show bk2.length ≤ D by rw [← hDT.out]; exact okB_len hok2.out)
            have hst2 := Lib.hid (show ∃ s, ∀ f, bfs N (s + f) [] [from_] = bfs N f bk2 td2 by
              obtain ⟨s, h⟩ := hst.out
              refine ⟨s + 1, fun f => ?_⟩
              rw [show s + 1 + f = s + (f + 1) by omega, h, htd2.out, htd0.out, hb2.out, ← hX.out]
              rfl)
            go_wp2_with fail
            go_roundg (2 * (D - bk2.length) + td2.length)
            case measure =>
              have h1 := hl1.out
              have h2 := hl2.out
              have h3 := hl3.out
              have h4 := htl3.out
              omega
            case rel => exact ⟨bk2, td2, a5, c5, g6, k6, c6, rfl, rfl, rfl, by have h1 := hl1.out; have h2 := hl2.out; have h4 := htl.out; omega, hok2, hst2, Lib.hid hV.out.to2.to2⟩
end Go.Proofs.YthbamhfnemdebaaGreat
namespace Go.Proofs.YthbamhfnemdebaaGreat
open Go.RowKit
def onE (txn : Int) (e : Ed) : Bool := e.from_ == txn || e.tgt == txn
set_option maxHeartbeats 4000000 in
theorem pred_wo (tb : Nat) (txn : Int) (rs : List Res) : PredC_ed 43 #[.pointer (some ⟨tb, 0, none⟩)] (onE txn) (blk tb 3 #[.int .i64 txn] :: rs) := by
  intro W r hS
  obtain ⟨fr, tgt⟩ := r
  have hB := Lib.hid (hS.alloc #[.int .i64 fr, .int .i64 tgt] 36)
  have hBel := Lib.hid (((Sep.start W).alloc #[.int .i64 fr, .int .i64 tgt] 36).tail.gold)
  obtain ⟨_, c0, c1, _⟩ := hB.out.b2
  obtain ⟨_, d0, _⟩ := hB.out.to1.b1
  clear hS hB
  unfold val_ed onE
  simp only
  cases h1 : fr == txn with
  | true =>
    go_enter Tryz.func43, Tryz.ntmps43
    go_wp2_with fail
    go_ret
    exact ⟨rfl, hBel.out⟩
  | false =>
    go_enter Tryz.func43, Tryz.ntmps43
    go_wp2_with fail
    go_ret
    exact ⟨by simp, hBel.out⟩
set_option maxHeartbeats 4000000 in
theorem without_any (v : Value) (L : List Ed) (txn : Int) (w : World) (hv : RL w v 2 L.length (L.flatMap Ed.cells)) (hl : L.length ≤ 1000) :
    Calls Tryz.prog 23 #[v, .int .i64 txn] w fun e w' => ∃ a c, e = .returned (.slice a (keepL (onE txn) L).length c) ∧ Sep w' [vec 36 2 (.slice a (keepL (onE txn) L).length c) (keepL (onE txn) L).length ((keepL (onE txn) L).flatMap Ed.cells), old w] := by
  have HC := Lib.hid (fun W h => clone_ed v L W h (by omega))
  have h0 := Lib.hid ((Sep.start w).alloc #[.int .i64 txn] 3)
  replace hv := Lib.hid hv
  go_enter Tryz.func23, Tryz.ntmps23
  go_wp2_with fail
  refine (HC.out _ (hv.out.below h0.out.tail.gold)).mono ?_
  rintro e w1 ⟨a, c, rfl, q⟩
  have hV := Lib.hid (q.graft h0.out)
  clear q h0 HC hv
  generalize w.heap.size = tb at *
  go_wp2_with fail
  refine (deleteFunc_ed a L.length c L _ _ (onE txn) w1 _ hV.out rfl hl (pred_wo tb txn [old w]) (fun args w => by kernel_rfl)).mono ?_
  rintro e w2 ⟨rfl, q⟩
  replace q := Lib.hid q
  clear hV
  go_wp2_with fail
  go_ret
  exact ⟨a, c, rfl, q.out.drop1⟩
end Go.Proofs.YthbamhfnemdebaaGreat
namespace Go.Proofs.YthbamhfnemdebaaGreat
open Go.RowKit
theorem tgts_addE (R : List (Int × List Int)) (e : Ed) : (tgts (addE R e)).length = (tgts R).length + 1 := by
  unfold addE
  split
  · simp [tgts]
  · split
    · simp [tgts] <;> omega
    · simp [tgts] <;> omega
theorem tgts_fold : ∀ (S : List Ed) (R : List (Int × List Int)), (tgts (S.foldl addE R)).length = (tgts R).length + S.length
  | [], R => by simp
  | e :: S, R => by
    rw [List.foldl_cons, tgts_fold S, tgts_addE]
    simp only [List.length_cons]
    omega
theorem tgts_nx (L : List Ed) : (tgts (nxL L)).length ≤ L.length := by
  unfold nxL
  rw [tgts_fold]
  have := sdE_len L
  simp only [tgts, List.flatMap_nil, List.length_nil]
  omega
end Go.Proofs.YthbamhfnemdebaaGreat
namespace Go.Proofs.YthbamhfnemdebaaGreat
open Go.RowKit
/-- Whom one was come to from is the start, or was come to before. -/
def trOK (fr : Int) (bk : List (Int × Int)) : Prop := ∀ l1 p l2, bk = l1 ++ p :: l2 → p.2 = fr ∨ p.2 ∈ l1.map (·.1)
theorem trOK_nil (fr : Int) : trOK fr [] := fun l1 p l2 h => by simp at h
theorem trOK_snoc {fr t a : Int} {bk : List (Int × Int)} (h : trOK fr bk) (ha : a = fr ∨ a ∈ bk.map (·.1)) : trOK fr (bk ++ [(t, a)]) := by
  intro l1 p l2 e
  rcases List.eq_nil_or_concat l2 with rfl | ⟨l3, q, rfl⟩
  · have e2 := List.append_inj' e rfl
    obtain ⟨rfl, e3⟩ := e2
    injection e3 with e3
    subst e3
    exact ha
  · rw [List.concat_eq_append, ← List.cons_append, ← List.append_assoc] at e
    have e2 := List.append_inj' e rfl
    exact h l1 p l3 e2.1
theorem nbr_keys (a : Int) : ∀ (ts : List Int) (bk : List (Int × Int)), ∃ ex, nbr a ts bk = bk ++ ex
  | [], bk => ⟨[], by simp [nbr]⟩
  | t :: ts, bk => by
    obtain ⟨ex, h⟩ := nbr_keys a ts (if hasL bk t then bk else bk ++ [(t, a)])
    have e : nbr a (t :: ts) bk = nbr a ts (if hasL bk t then bk else bk ++ [(t, a)]) := rfl
    rw [e, h]
    split
    · exact ⟨ex, rfl⟩
    · exact ⟨(t, a) :: ex, by simp⟩
theorem nbr_tr {fr a : Int} : ∀ (ts : List Int) (bk : List (Int × Int)), trOK fr bk → (a = fr ∨ a ∈ bk.map (·.1)) → trOK fr (nbr a ts bk)
  | [], _, h, _ => h
  | t :: ts, bk, h, ha => by
    have e : nbr a (t :: ts) bk = nbr a ts (if hasL bk t then bk else bk ++ [(t, a)]) := rfl
    rw [e]
    split
    · exact nbr_tr ts bk h ha
    · exact nbr_tr ts _ (trOK_snoc h ha) (ha.imp id fun h => by rw [List.map_append]; exact List.mem_append_left _ h)
theorem bfs_tr (N : List (Int × List Int)) (fr : Int) : ∀ (f : Nat) (bk : List (Int × Int)) (td : List Int), trOK fr bk → (∀ x ∈ td, x = fr ∨ x ∈ bk.map (·.1)) → trOK fr (bfs N f bk td)
  | 0, _, _, h, _ => h
  | _ + 1, _, [], h, _ => h
  | f + 1, bk, a :: td, h, ht => by
    have e : bfs N (f + 1) bk (a :: td) = bfs N f (nbr a (rowL N a) bk) (td ++ ((nbr a (rowL N a) bk).drop bk.length).map (·.1)) := rfl
    rw [e]
    refine bfs_tr N fr f _ _ (nbr_tr _ _ h (ht a (List.mem_cons_self ..))) fun x hx => ?_
    obtain ⟨ex, he⟩ := nbr_keys a (rowL N a) bk
    rw [he] at hx ⊢
    rw [List.drop_left] at hx
    rw [List.map_append, List.mem_append]
    rcases List.mem_append.1 hx with hx | hx
    · exact (ht x (List.mem_cons_of_mem _ hx)).imp id .inl
    · exact .inr (.inr hx)
/-- What ways tells is a tree. -/
theorem ways_tr {N : List (Int × List Int)} {fr : Int} {bk : List (Int × Int)} (h : ∃ s, ∀ f, bfs N (s + f) [] [fr] = bk) : trOK fr bk := by
  obtain ⟨s, hs⟩ := h
  rw [← hs 0]
  exact bfs_tr N fr _ [] [fr] (trOK_nil fr) (fun x hx => .inl (by simpa using hx))
/-- ways tells one thing only. -/
theorem ways_uniq {N : List (Int × List Int)} {fr : Int} {bk bk' : List (Int × Int)} (h : ∃ s, ∀ f, bfs N (s + f) [] [fr] = bk) (h' : ∃ s, ∀ f, bfs N (s + f) [] [fr] = bk') : bk = bk' := by
  obtain ⟨s, hs⟩ := h
  obtain ⟨t, ht⟩ := h'
  rw [← hs t, ← ht s, Nat.add_comm]
theorem nbr_mem (a x : Int) : ∀ (ts : List Int) (bk : List (Int × Int)), x ∈ (nbr a ts bk).map (·.1) ↔ x ∈ bk.map (·.1) ∨ x ∈ ts
  | [], bk => by simp [nbr]
  | t :: ts, bk => by
    have e : nbr a (t :: ts) bk = nbr a ts (if hasL bk t then bk else bk ++ [(t, a)]) := rfl
    rw [e, nbr_mem a x ts, List.mem_cons]
    cases hh : hasL bk t with
    | true =>
      rw [if_pos rfl]
      have ht := hasL_iff.1 hh
      constructor
      · rintro (h | h)
        · exact .inl h
        · exact .inr (.inr h)
      · rintro (h | h | h)
        · exact .inl h
        · exact .inl (h ▸ ht)
        · exact .inr h
    | false =>
      rw [if_neg (by simp), List.map_append, List.mem_append]
      constructor
      · rintro ((h | h) | h)
        · exact .inl h
        · exact .inr (.inl (by simpa using h))
        · exact .inr (.inr h)
      · rintro (h | h | h)
        · exact .inl (.inl h)
        · exact .inl (.inr (by simpa using h))
        · exact .inr h
theorem nbr_okB {T : List Int} (a : Int) : ∀ (ts : List Int) (bk : List (Int × Int)), okB T bk → (∀ t ∈ ts, t ∈ T) → okB T (nbr a ts bk)
  | [], _, h, _ => h
  | t :: ts, bk, h, ht => by
    have e : nbr a (t :: ts) bk = nbr a ts (if hasL bk t then bk else bk ++ [(t, a)]) := rfl
    rw [e]
    cases hh : hasL bk t with
    | true => rw [if_pos rfl]; exact nbr_okB a ts bk h fun x hx => ht x (List.mem_cons_of_mem _ hx)
    | false => rw [if_neg (by simp)]; exact nbr_okB a ts _ (okB_snoc h (ht t (List.mem_cons_self ..)) hh) fun x hx => ht x (List.mem_cons_of_mem _ hx)
theorem bfs_closed (N : List (Int × List Int)) (fr : Int) : ∀ (f : Nat) (bk : List (Int × Int)) (td : List Int), okB (tgts N) bk → 2 * ((tgts N).length - bk.length) + td.length ≤ f →
    (∀ x, (x = fr ∨ x ∈ bk.map (·.1)) → x ∈ td ∨ ∀ t ∈ rowL N x, t ∈ bk.map (·.1)) → ∀ x, (x = fr ∨ x ∈ (bfs N f bk td).map (·.1)) → ∀ t ∈ rowL N x, t ∈ (bfs N f bk td).map (·.1)
  | 0, bk, td, _, hm, hc => by
    obtain rfl : td = [] := List.eq_nil_of_length_eq_zero (by omega)
    intro x hx
    exact (hc x hx).resolve_left (by simp)
  | _ + 1, bk, [], _, _, hc => fun x hx => (hc x hx).resolve_left (by simp)
  | f + 1, bk, a :: td, ho, hm, hc => by
    have e : bfs N (f + 1) bk (a :: td) = bfs N f (nbr a (rowL N a) bk) (td ++ ((nbr a (rowL N a) bk).drop bk.length).map (·.1)) := rfl
    rw [e]
    have ho2 := nbr_okB a (rowL N a) bk ho fun t ht => rowL_tgts ht
    have hl2 := okB_len ho2
    have hl1 := nbr_len a (rowL N a) bk
    refine bfs_closed N fr f _ _ ho2 (by rw [List.length_append, List.length_map, List.length_drop]; simp only [List.length_cons] at hm; omega) fun x hx => ?_
    by_cases hold : x = fr ∨ x ∈ bk.map (·.1)
    · rcases hc x hold with h | h
      · rcases List.mem_cons.1 h with rfl | h
        · exact .inr fun t ht => (nbr_mem _ _ _ _).2 (.inr ht)
        · exact .inl (List.mem_append_left _ h)
      · exact .inr fun t ht => (nbr_mem _ _ _ _).2 (.inl (h t ht))
    · left
      obtain ⟨ex, he⟩ := nbr_keys a (rowL N a) bk
      have hx2 : x ∈ (nbr a (rowL N a) bk).map (·.1) := hx.resolve_left fun h => hold (.inl h)
      rw [he, List.map_append, List.mem_append] at hx2
      rw [he, List.drop_left]
      exact List.mem_append_right _ (hx2.resolve_left fun h => hold (.inr h))
/-- Who is reached by whom ways tells reaches no more. -/
theorem ways_closed {N : List (Int × List Int)} {fr : Int} {bk : List (Int × Int)} (h : ∃ s, ∀ f, bfs N (s + f) [] [fr] = bk) : ∀ x, (x = fr ∨ x ∈ bk.map (·.1)) → ∀ t ∈ rowL N x, t ∈ bk.map (·.1) := by
  obtain ⟨s, hs⟩ := h
  have := bfs_closed N fr (s + (2 * (tgts N).length + 1)) [] [fr] (okB_nil _) (by simp <;> omega) (fun x hx => .inl (by simpa using hx))
  rw [hs] at this
  exact this
/-- Whom one reaches. -/
inductive Rd (N : List (Int × List Int)) (fr : Int) : Int → Prop
  | one {t : Int} : t ∈ rowL N fr → Rd N fr t
  | more {x t : Int} : Rd N fr x → t ∈ rowL N x → Rd N fr t
theorem bfs_sound (N : List (Int × List Int)) (fr : Int) : ∀ (f : Nat) (bk : List (Int × Int)) (td : List Int), (∀ x ∈ bk.map (·.1), Rd N fr x) → (∀ x ∈ td, x = fr ∨ Rd N fr x) → ∀ x ∈ (bfs N f bk td).map (·.1), Rd N fr x
  | 0, _, _, h, _ => h
  | _ + 1, _, [], h, _ => h
  | f + 1, bk, a :: td, h, ht => by
    have e : bfs N (f + 1) bk (a :: td) = bfs N f (nbr a (rowL N a) bk) (td ++ ((nbr a (rowL N a) bk).drop bk.length).map (·.1)) := rfl
    rw [e]
    have hk : ∀ x ∈ (nbr a (rowL N a) bk).map (·.1), Rd N fr x := fun x hx => by
      rcases (nbr_mem _ _ _ _).1 hx with hx | hx
      · exact h x hx
      · rcases ht a (List.mem_cons_self ..) with rfl | ha
        · exact .one hx
        · exact .more ha hx
    refine bfs_sound N fr f _ _ hk fun x hx => ?_
    rcases List.mem_append.1 hx with hx | hx
    · exact ht x (List.mem_cons_of_mem _ hx)
    · right
      obtain ⟨ex, he⟩ := nbr_keys a (rowL N a) bk
      rw [he, List.drop_left] at hx
      refine hk x ?_
      rw [he, List.map_append]
      exact List.mem_append_right _ hx
/-- Who is told by ways is who is reached. -/
theorem ways_iff {N : List (Int × List Int)} {fr : Int} {bk : List (Int × Int)} (h : ∃ s, ∀ f, bfs N (s + f) [] [fr] = bk) (x : Int) : x ∈ bk.map (·.1) ↔ Rd N fr x := by
  have hc := ways_closed h
  constructor
  · obtain ⟨s, hs⟩ := h
    intro hx
    rw [← hs 0] at hx
    exact bfs_sound N fr _ [] [fr] (by simp) (fun y hy => .inl (by simpa using hy)) x hx
  · intro hr
    induction hr with
    | one ht => exact hc fr (.inl rfl) _ ht
    | more _ ht ih => exact hc _ (.inr ih) _ ht
theorem rowL_cons (k : Int) (xs : List Int) (r : List (Int × List Int)) (a : Int) : rowL ((k, xs) :: r) a = if k = a then xs else rowL r a := by
  unfold rowL
  rw [List.find?_cons]
  by_cases h : k = a
  · simp [h]
  · simp [h]
theorem rowL_none {R : List (Int × List Int)} {a : Int} (h : ∀ p ∈ R, p.1 ≠ a) : rowL R a = [] := by
  unfold rowL
  rw [List.find?_eq_none.2 fun p hp => by simpa using h p hp]
  rfl
theorem rowL_addE {R : List (Int × List Int)} {e : Ed} (a : Int) (hle : ∀ p ∈ R, p.1 ≤ e.from_) (hpw : R.Pairwise (fun p q => q.1 < p.1)) : rowL (addE R e) a = rowL R a ++ (if e.from_ = a then [e.tgt] else []) := by
  unfold addE
  split
  · rw [rowL_cons]
    split <;> rfl
  · rename_i k xs r
    split
    · rename_i hk
      rw [rowL_cons, rowL_cons, ← hk]
      by_cases ha : k = a
      · simp [ha]
      · simp [ha]
    · rename_i hk
      rw [rowL_cons]
      by_cases ha : e.from_ = a
      · rw [if_pos ha, if_pos ha, rowL_none (R := (k, xs) :: r) fun p hp => ?_]
        · rfl
        · have h1 := hle (k, xs) (List.mem_cons_self ..)
          simp only at h1
          rcases List.mem_cons.1 hp with rfl | hp
          · rw [← ha]; exact hk
          · have h2 := (List.pairwise_cons.1 hpw).1 p hp
            simp only at h2
            omega
      · rw [if_neg ha, if_neg ha, List.append_nil]
theorem rowL_fold (S : List Ed) (hs : S.Pairwise ltE) (a : Int) : ∀ k, k ≤ S.length → rowL ((S.take k).foldl addE []) a = ((S.take k).filter fun e => e.from_ == a).map (·.tgt)
  | 0, _ => rfl
  | k + 1, hk => by
    rw [List.take_succ_eq_append_getElem (by omega), List.foldl_append, List.filter_append, List.map_append, ← rowL_fold S hs a k (by omega)]
    rw [List.foldl_cons, List.foldl_nil, rowL_addE a (nx_inv S hs k (by omega)) (nx_pw S hs k (by omega))]
    congr 1
    by_cases h : S[k].from_ = a
    · simp [h]
    · simp [h]
/-- Whom one has an edge to. -/
theorem rowL_nx (L : List Ed) (a : Int) : rowL (nxL L) a = ((sdE L).filter fun e => e.from_ == a).map (·.tgt) := by
  have := rowL_fold (sdE L) (sdE_pw L) a _ (Nat.le_refl _)
  rw [List.take_length] at this
  exact this
theorem rowL_mem (L : List Ed) (a t : Int) : t ∈ rowL (nxL L) a ↔ ⟨a, t⟩ ∈ L := by
  rw [rowL_nx, List.mem_map]
  constructor
  · rintro ⟨e, he, rfl⟩
    rw [List.mem_filter, sdE_mem] at he
    obtain ⟨h1, h2⟩ := he
    obtain ⟨x, y⟩ := e
    simp only [beq_iff_eq] at h2
    subst h2
    exact h1
  · intro h
    exact ⟨⟨a, t⟩, List.mem_filter.2 ⟨(sdE_mem L _).2 h, by simp⟩, rfl⟩
end Go.Proofs.YthbamhfnemdebaaGreat
namespace Go.Proofs
open Go.Shelf
def Tryz.reverseI_ren : Go.Shelf.Ren := ⟨fun | 112 => 40 | n => n, fun | 28 => 24 | 3 => 3 | 4 => 4 | 0 => 0 | n => n, fun | n => n⟩
theorem Tryz.reverseI : Go.Proofs.Lays.n112 Tryz.prog Tryz.reverseI_ren := {
  mixed := by kernel_rfl
  f112 := Tryz.func40.trans (congrArg some (by kernel_rfl))
  t0 := Tryz.underlying0
  a0 := Tryz.isAgg0
  z0 := Tryz.sizeOf0
  v0 := Tryz.zeroValue0
  t3 := Tryz.underlying3
  a3 := Tryz.isAgg3
  z3 := Tryz.sizeOf3
  v3 := Tryz.zeroValue3
  t4 := Tryz.underlying4
  a4 := Tryz.isAgg4
  z4 := Tryz.sizeOf4
  v4 := Tryz.zeroValue4
  t28 := Tryz.underlying24
  a28 := Tryz.isAgg24
  z28 := Tryz.sizeOf24
  v28 := Tryz.zeroValue24 }
end Go.Proofs
namespace Go.Proofs.YthbamhfnemdebaaGreat
open Go.RowKit
theorem revI_any (a : Option Addr) (n c : Nat) (xs : List Int) (w : World) (rs : List Res) (hS : Sep w (vec 3 1 (.slice a n c) n (xs.map (Value.int .i64)) :: rs)) (hl : xs.length = n) (h0 : 0 < n) (hn : n ≤ 1000000) :
    Calls Tryz.prog 40 #[.slice a n c] w fun e w' => e = .returned (.tuple #[]) ∧ Sep w' (vec 3 1 (.slice a n c) n (xs.reverse.map (Value.int .i64)) :: rs) := by
  obtain ⟨g, rfl⟩ : ∃ g, a = some ⟨g, 0, none⟩ := by
    rcases hS.gvec.2 with ⟨_, h1⟩ | ⟨g, cap, cur, hv, _⟩
    · omega
    · injection hv with e1 _ _
      exact ⟨g, e1⟩
  obtain ⟨hH, hg⟩ := hS.vec_holds1 (Value.int .i64) xs hl
  have hcon := Any.slices_Reverse_int Tryz.reverseI g 0 c xs w hH (by omega)
  rw [hl] at hcon
  refine Calls.mono (show Calls Tryz.prog 40 _ w _ from hcon) ?_
  rintro e w' ⟨rfl, m, rfl⟩
  refine ⟨rfl, ?_⟩
  have := hS.vec_row (Value.int .i64) m xs.reverse.toArray #[] (by simpa using hl)
  simpa using this
end Go.Proofs.YthbamhfnemdebaaGreat
namespace Go.Proofs.YthbamhfnemdebaaGreat
open Go.RowKit
abbrev Rw := List (Int × List Int)
abbrev Bk := List (Int × Int)
/-- The search as steps. -/
inductive Bfs (N : Rw) : Bk → List Int → Bk → Prop
  | nil {bk : Bk} : Bfs N bk [] bk
  | step {bk : Bk} {a : Int} {td : List Int} {r : Bk} : Bfs N (nbr a (rowL N a) bk) (td ++ ((nbr a (rowL N a) bk).drop bk.length).map (·.1)) r → Bfs N bk (a :: td) r
theorem Bfs.uniq {N : Rw} {bk r r' : Bk} {td : List Int} (h : Bfs N bk td r) (h' : Bfs N bk td r') : r = r' := by
  induction h with
  | nil => cases h'; rfl
  | step _ ih => cases h' with | step h2 => exact ih h2
theorem bfs_steps (N : Rw) : ∀ (f : Nat) (bk : Bk) (td : List Int), okB (tgts N) bk → 2 * ((tgts N).length - bk.length) + td.length ≤ f → Bfs N bk td (bfs N f bk td)
  | 0, bk, td, _, hm => by
    obtain rfl : td = [] := List.eq_nil_of_length_eq_zero (by omega)
    exact .nil
  | _ + 1, bk, [], _, _ => .nil
  | f + 1, bk, a :: td, ho, hm => by
    have ho2 := nbr_okB a (rowL N a) bk ho fun t ht => rowL_tgts ht
    have hl2 := okB_len ho2
    have hl1 := nbr_len a (rowL N a) bk
    exact .step (bfs_steps N f _ _ ho2 (by rw [List.length_append, List.length_map, List.length_drop]; simp only [List.length_cons] at hm; omega))
/-- What ways tells. -/
def wyN (N : Rw) (fr : Int) : Bk := bfs N (2 * (tgts N).length + 1) [] [fr]
theorem wyN_more (N : Rw) (fr : Int) (f : Nat) : Bfs N [] [fr] (bfs N (2 * (tgts N).length + 1 + f) [] [fr]) := bfs_steps N _ [] [fr] (okB_nil _) (by simp <;> omega)
theorem wyN_steps (N : Rw) (fr : Int) : Bfs N [] [fr] (wyN N fr) := wyN_more N fr 0
theorem wyN_ends (N : Rw) (fr : Int) : ∃ s, ∀ f, bfs N (s + f) [] [fr] = wyN N fr := ⟨_, fun f => (wyN_more N fr f).uniq (wyN_steps N fr)⟩
theorem wyN_of {N : Rw} {fr : Int} {bk : Bk} (h : ∃ s, ∀ f, bfs N (s + f) [] [fr] = bk) : bk = wyN N fr := ways_uniq h (wyN_ends N fr)
theorem wyN_iff (N : Rw) (fr x : Int) : x ∈ (wyN N fr).map (·.1) ↔ Rd N fr x := ways_iff (wyN_ends N fr) x
theorem wyN_tr (N : Rw) (fr : Int) : trOK fr (wyN N fr) := ways_tr (wyN_ends N fr)
theorem bfs_okB (N : Rw) : ∀ (f : Nat) (bk : Bk) (td : List Int), okB (tgts N) bk → okB (tgts N) (bfs N f bk td)
  | 0, _, _, h => h
  | _ + 1, _, [], h => h
  | f + 1, bk, a :: td, h => bfs_okB N f _ _ (nbr_okB a (rowL N a) bk h fun t ht => rowL_tgts ht)
theorem wyN_okB (N : Rw) (fr : Int) : okB (tgts N) (wyN N fr) := bfs_okB N _ _ _ (okB_nil _)
theorem wyN_nodup (N : Rw) (fr : Int) : NodupL (wyN N fr) := (wyN_okB N fr).1
theorem nbr_par {N : Rw} {a : Int} : ∀ (ts : List Int) (bk : Bk), (∀ p ∈ bk, p.1 ∈ rowL N p.2) → (∀ t ∈ ts, t ∈ rowL N a) → ∀ p ∈ nbr a ts bk, p.1 ∈ rowL N p.2
  | [], _, h, _ => h
  | t :: ts, bk, h, ht => by
    have e : nbr a (t :: ts) bk = nbr a ts (if hasL bk t then bk else bk ++ [(t, a)]) := rfl
    rw [e]
    refine nbr_par ts _ ?_ fun x hx => ht x (List.mem_cons_of_mem _ hx)
    split
    · exact h
    · intro p hp
      rcases List.mem_append.1 hp with hp | hp
      · exact h p hp
      · simp only [List.mem_singleton] at hp
        subst hp
        exact ht t (List.mem_cons_self ..)
theorem bfs_par (N : Rw) : ∀ (f : Nat) (bk : Bk) (td : List Int), (∀ p ∈ bk, p.1 ∈ rowL N p.2) → ∀ p ∈ bfs N f bk td, p.1 ∈ rowL N p.2
  | 0, _, _, h => h
  | _ + 1, _, [], h => h
  | f + 1, bk, a :: td, h => bfs_par N f _ _ (nbr_par _ _ h fun _ ht => ht)
/-- Whom one was come to from has an edge to it. -/
theorem wyN_par (N : Rw) (fr : Int) : ∀ p ∈ wyN N fr, p.1 ∈ rowL N p.2 := bfs_par N _ _ _ (by simp)
/-- The way back, step by step. -/
def stepB (bk : Bk) (x : Int) : Int := (getL bk x).getD 0
def pathB (bk : Bk) (fr : Int) : Nat → Int → List Int
  | 0, _ => []
  | f + 1, x => if x = fr then [] else x :: pathB bk fr f (stepB bk x)
/-- Where one stands among what is known. -/
def posB (bk : Bk) (x : Int) : Nat := bk.findIdx fun p => decide (p.1 = x)
theorem stepB_mem {bk : Bk} (hn : NodupL bk) {x : Int} (hx : x ∈ bk.map (·.1)) : (x, stepB bk x) ∈ bk := by
  have h := hasL_iff.2 hx
  rw [← getL_isSome] at h
  obtain ⟨v, hv⟩ := Option.isSome_iff_exists.1 h
  unfold stepB
  rw [hv]
  exact (getL_some_iff hn).1 hv
theorem posB_lt {bk : Bk} {x : Int} (hx : x ∈ bk.map (·.1)) : posB bk x < bk.length := by
  obtain ⟨p, hp, he⟩ := List.mem_map.1 hx
  exact List.findIdx_lt_length_of_exists ⟨p, hp, by simpa using he⟩
theorem posB_step {fr : Int} {bk : Bk} (hn : NodupL bk) (ht : trOK fr bk) {x : Int} (hx : x ∈ bk.map (·.1)) : stepB bk x = fr ∨ (stepB bk x ∈ bk.map (·.1) ∧ posB bk (stepB bk x) < posB bk x) := by
  have hm := stepB_mem hn hx
  generalize stepB bk x = y at *
  obtain ⟨l1, l2, rfl⟩ := List.append_of_mem hm
  rcases ht l1 (x, y) l2 rfl with h | h
  · exact .inl h
  · right
    simp only at h
    have hx1 : x ∉ l1.map (·.1) := by
      unfold NodupL at hn
      rw [List.map_append, List.nodup_append] at hn
      intro h1
      exact hn.2.2 x h1 x (by simp) rfl
    have h1 : posB (l1 ++ (x, y) :: l2) x = l1.length := by
      unfold posB
      rw [List.findIdx_append, if_neg]
      · simp [List.findIdx_cons]
      · rw [Nat.not_lt]
        refine Nat.le_of_eq (List.findIdx_eq_length.2 fun p hp => ?_).symm
        have : p.1 ≠ x := fun e => hx1 (List.mem_map.2 ⟨p, hp, e⟩)
        simpa using this
    have h2 : posB (l1 ++ (x, y) :: l2) y < l1.length := by
      have h3 := posB_lt (bk := l1) h
      unfold posB at h3 ⊢
      rw [List.findIdx_append, if_pos h3]
      exact h3
    exact ⟨by rw [List.map_append]; exact List.mem_append_left _ h, by omega⟩
/-- What Cycle tells of edges gone through one by one. -/
def cycG (N : Rw) : List Ed → List Int × Bool
  | [] => ([], false)
  | e :: r => if hasL (wyN N e.from_) e.from_ then ((pathB (wyN N e.from_) e.from_ (wyN N e.from_).length (stepB (wyN N e.from_) e.from_) ++ [e.from_]).reverse, true) else cycG N r
def cyc (L : List Ed) : List Int × Bool := cycG (nxL L) (sdE L)
theorem wyN_len (L : List Ed) (fr : Int) : (wyN (nxL L) fr).length ≤ L.length := Nat.le_trans (okB_len (wyN_okB _ _)) (tgts_nx L)
theorem pathB_len (bk : Bk) (fr : Int) : ∀ (f : Nat) (x : Int), (pathB bk fr f x).length ≤ f
  | 0, _ => Nat.le_refl _
  | f + 1, x => by
    unfold pathB
    split
    · simp
    · have := pathB_len bk fr f (stepB bk x)
      simp only [List.length_cons]
      omega
theorem cycG_len (L : List Ed) : ∀ S, (cycG (nxL L) S).1.length ≤ L.length + 1
  | [] => by simp [cycG]
  | e :: r => by
    unfold cycG
    split
    · simp only [List.length_reverse, List.length_append, List.length_cons, List.length_nil]
      have h1 := wyN_len L e.from_
      have h2 := pathB_len (wyN (nxL L) e.from_) e.from_ (wyN (nxL L) e.from_).length (stepB (wyN (nxL L) e.from_) e.from_)
      omega
    · exact cycG_len L r
end Go.Proofs.YthbamhfnemdebaaGreat
namespace Go.Proofs.YthbamhfnemdebaaGreat
open Go.RowKit
theorem pathB_fr (bk : Bk) (fr : Int) (f : Nat) : pathB bk fr f fr = [] := by
  cases f with
  | zero => rfl
  | succ f => unfold pathB; rw [if_pos rfl]
theorem pathB_ne (bk : Bk) {fr x : Int} (f : Nat) (h : ¬ x = fr) : pathB bk fr (f + 1) x = x :: pathB bk fr f (stepB bk x) := by
  conv => lhs; unfold pathB
  rw [if_neg h]
/-- Where the way back stands with what is left of it. -/
def onB (bk : Bk) (fr : Int) (f : Nat) (x : Int) : Prop := x = fr ∨ (x ∈ bk.map (·.1) ∧ posB bk x < f)
theorem onB_step {bk : Bk} {fr x : Int} {f : Nat} (hn : NodupL bk) (ht : trOK fr bk) (h : onB bk fr (f + 1) x) (hx : ¬ x = fr) : onB bk fr f (stepB bk x) := by
  obtain ⟨h1, h2⟩ := h.resolve_left hx
  rcases posB_step hn ht h1 with h3 | ⟨h3, h4⟩
  · exact .inl h3
  · exact .inr ⟨h3, by omega⟩
theorem onB_pos {bk : Bk} {fr x : Int} {f : Nat} (h : onB bk fr f x) (hx : ¬ x = fr) : 0 < f := by
  have := (h.resolve_left hx).2
  omega
theorem onB_key {bk : Bk} {fr x : Int} {f : Nat} (h : onB bk fr f x) (hx : ¬ x = fr) : x ∈ bk.map (·.1) := (h.resolve_left hx).1
theorem onB_start {N : Rw} {fr : Int} (h : fr ∈ (wyN N fr).map (·.1)) : onB (wyN N fr) fr (wyN N fr).length (stepB (wyN N fr) fr) := by
  rcases posB_step (wyN_nodup N fr) (wyN_tr N fr) h with h3 | ⟨h3, h4⟩
  · exact .inl h3
  · exact .inr ⟨h3, posB_lt h3⟩
theorem path_facts {bk : Bk} {fr : Int} (hn : NodupL bk) (ht : trOK fr bk) : ∀ (f : Nat) (x : Int), onB bk fr f x →
    (∀ i a b, (pathB bk fr f x ++ [fr])[i]? = some a → (pathB bk fr f x ++ [fr])[i + 1]? = some b → (a, b) ∈ bk) ∧ (pathB bk fr f x ++ [fr])[0]? = some x ∧ (∀ y ∈ pathB bk fr f x, y ≠ fr ∧ posB bk y ≤ posB bk x) ∧ (pathB bk fr f x).Nodup := by
  intro f
  induction f with
  | zero =>
    intro x h
    obtain rfl : x = fr := by
      refine Classical.byContradiction fun hx => ?_
      have := onB_pos h hx
      omega
    rw [pathB_fr]
    refine ⟨fun i a b _ h2 => ?_, rfl, by simp, by simp⟩
    simp at h2
  | succ f ih =>
    intro x h
    by_cases hx : x = fr
    · subst hx
      rw [pathB_fr]
      refine ⟨fun i a b _ h2 => ?_, rfl, by simp, by simp⟩
      simp at h2
    · rw [pathB_ne _ _ hx]
      obtain ⟨h1, h2, h3, h4⟩ := ih _ (onB_step hn ht h hx)
      have hk := onB_key h hx
      have hlt : ∀ y ∈ pathB bk fr f (stepB bk x), posB bk y < posB bk x := by
        intro y hy
        rcases posB_step hn ht hk with h5 | ⟨_, h6⟩
        · rw [h5, pathB_fr] at hy; simp at hy
        · exact Nat.lt_of_le_of_lt (h3 y hy).2 h6
      refine ⟨fun i a b ha hb => ?_, rfl, fun y hy => ?_, ?_⟩
      · cases i with
        | zero =>
          simp only [List.cons_append, List.getElem?_cons_zero, Option.some.injEq] at ha
          simp only [List.cons_append, Nat.zero_add, List.getElem?_cons_succ] at hb
          rw [h2] at hb
          injection hb with hb
          subst ha hb
          exact stepB_mem hn hk
        | succ i =>
          simp only [List.cons_append, List.getElem?_cons_succ] at ha hb
          exact h1 i a b ha hb
      · rcases List.mem_cons.1 hy with rfl | hy
        · exact ⟨hx, Nat.le_refl _⟩
        · exact ⟨(h3 y hy).1, Nat.le_of_lt (hlt y hy)⟩
      · rw [List.nodup_cons]
        refine ⟨fun hm => ?_, h4⟩
        have := hlt x hm
        omega
/-- What Cycle tells of one that reaches itself. -/
def rsC (N : Rw) (fr : Int) : List Int × Bool := ((pathB (wyN N fr) fr (wyN N fr).length (stepB (wyN N fr) fr) ++ [fr]).reverse, true)
theorem cycG_cons (N : Rw) (e : Ed) (r : List Ed) : cycG N (e :: r) = if hasL (wyN N e.from_) e.from_ then rsC N e.from_ else cycG N r := rfl
theorem hasW_iff (N : Rw) (fr x : Int) : hasL (wyN N fr) x = true ↔ Rd N fr x := by rw [hasL_iff, wyN_iff]
theorem cycG_no (N : Rw) : ∀ S : List Ed, (∀ e ∈ S, ¬ Rd N e.from_ e.from_) → cycG N S = ([], false)
  | [], _ => rfl
  | e :: r, h => by
    rw [cycG_cons, if_neg fun h1 => h e (List.mem_cons_self ..) ((hasW_iff N _ _).1 h1)]
    exact cycG_no N r fun e he => h e (List.mem_cons_of_mem _ he)
theorem cycG_min (N : Rw) (fr : Int) : ∀ S : List Ed, S.Pairwise (fun a b => a.from_ ≤ b.from_) → (∃ e ∈ S, e.from_ = fr) → Rd N fr fr → (∀ e ∈ S, Rd N e.from_ e.from_ → fr ≤ e.from_) → cycG N S = rsC N fr
  | [], _, h, _, _ => by obtain ⟨e, he, _⟩ := h; simp at he
  | e :: r, hp, ⟨e1, he1, hf⟩, hr, hm => by
    rw [List.pairwise_cons] at hp
    rw [cycG_cons]
    by_cases hh : hasL (wyN N e.from_) e.from_ = true
    · rw [if_pos hh]
      have h1 := hm e (List.mem_cons_self ..) ((hasW_iff N _ _).1 hh)
      have h2 : e.from_ ≤ fr := by
        rcases List.mem_cons.1 he1 with rfl | he1
        · omega
        · rw [← hf]; exact hp.1 e1 he1
      rw [show e.from_ = fr by omega]
    · rw [if_neg hh]
      refine cycG_min N fr r hp.2 ?_ hr fun e he => hm e (List.mem_cons_of_mem _ he)
      rcases List.mem_cons.1 he1 with rfl | he1
      · rw [hasW_iff, hf] at hh; exact absurd hr hh
      · exact ⟨e1, he1, hf⟩
theorem sd_from (L : List Ed) : (sdE L).Pairwise (fun a b => a.from_ ≤ b.from_) := (sdE_pw L).imp fun h => by simp only [ltE] at h; omega
/-- The two ends of Cycle. -/
theorem cyc_cases (L : List Ed) : (cyc L = ([], false) ∧ ∀ e ∈ L, ¬ Rd (nxL L) e.from_ e.from_) ∨ ∃ fr, cyc L = rsC (nxL L) fr ∧ Rd (nxL L) fr fr ∧ (∃ e ∈ L, e.from_ = fr) ∧ ∀ e ∈ L, Rd (nxL L) e.from_ e.from_ → fr ≤ e.from_ := by
  unfold cyc
  have key : ∀ S : List Ed, S.Pairwise (fun a b => a.from_ ≤ b.from_) → (∀ e ∈ S, ¬ Rd (nxL L) e.from_ e.from_) ∨ ∃ fr, Rd (nxL L) fr fr ∧ (∃ e ∈ S, e.from_ = fr) ∧ ∀ e ∈ S, Rd (nxL L) e.from_ e.from_ → fr ≤ e.from_ := by
    intro S
    induction S with
    | nil => exact fun _ => .inl (by simp)
    | cons e r ih =>
      intro hp
      rw [List.pairwise_cons] at hp
      by_cases hh : Rd (nxL L) e.from_ e.from_
      · refine .inr ⟨e.from_, hh, ⟨e, List.mem_cons_self .., rfl⟩, fun x hx _ => ?_⟩
        rcases List.mem_cons.1 hx with rfl | hx
        · exact Int.le_refl _
        · exact hp.1 x hx
      · rcases ih hp.2 with h | ⟨fr, h1, ⟨x, hx, hf⟩, h3⟩
        · refine .inl fun x hx => ?_
          rcases List.mem_cons.1 hx with rfl | hx
          · exact hh
          · exact h x hx
        · refine .inr ⟨fr, h1, ⟨x, List.mem_cons_of_mem _ hx, hf⟩, fun y hy hr => ?_⟩
          rcases List.mem_cons.1 hy with rfl | hy
          · exact absurd hr hh
          · exact h3 y hy hr
  rcases key (sdE L) (sd_from L) with h | ⟨fr, h1, ⟨x, hx, hf⟩, h3⟩
  · exact .inl ⟨cycG_no _ _ h, fun e he => h e ((sdE_mem L e).2 he)⟩
  · exact .inr ⟨fr, cycG_min _ fr _ (sd_from L) ⟨x, hx, hf⟩ h1 h3, h1, ⟨x, (sdE_mem L x).1 hx, hf⟩, fun e he => h3 e ((sdE_mem L e).2 he)⟩
/-- Whether there is a cycle is whether it has somebody. -/
theorem cyc_ok (L : List Ed) : (cyc L).2 = decide (0 < (cyc L).1.length) := by
  rcases cyc_cases L with ⟨h, _⟩ | ⟨fr, h, _⟩
  · rw [h]; rfl
  · rw [h]; simp [rsC]
/-- A cycle follows edges. -/
theorem cyc_edge (L : List Ed) (i : Nat) (hi : i < (cyc L).1.length) : ⟨(cyc L).1.getD i 0, (cyc L).1.getD (if i + 1 < (cyc L).1.length then i + 1 else 0) 0⟩ ∈ L := by
  rcases cyc_cases L with ⟨h, _⟩ | ⟨fr, h, hr, _⟩
  · rw [h] at hi; simp at hi
  · rw [h] at hi ⊢
    have hk := (wyN_iff (nxL L) fr fr).2 hr
    obtain ⟨h1, h2, _, _⟩ := path_facts (wyN_nodup (nxL L) fr) (wyN_tr _ _) _ _ (onB_start hk)
    have hpar := wyN_par (nxL L) fr
    have hst := stepB_mem (wyN_nodup (nxL L) fr) hk
    unfold rsC at hi ⊢
    simp only at hi ⊢
    have hlen : 0 < (pathB (wyN (nxL L) fr) fr (wyN (nxL L) fr).length (stepB (wyN (nxL L) fr) fr) ++ [fr]).length := by simp
    have hlast : (pathB (wyN (nxL L) fr) fr (wyN (nxL L) fr).length (stepB (wyN (nxL L) fr) fr) ++ [fr])[(pathB (wyN (nxL L) fr) fr (wyN (nxL L) fr).length (stepB (wyN (nxL L) fr) fr) ++ [fr]).length - 1]? = some fr := by simp
    generalize pathB (wyN (nxL L) fr) fr (wyN (nxL L) fr).length (stepB (wyN (nxL L) fr) fr) ++ [fr] = M at *
    rw [List.length_reverse] at hi ⊢
    have hg : ∀ j, j < M.length → M.reverse.getD j 0 = M.getD (M.length - 1 - j) 0 := by
      intro j hj
      rw [List.getD_eq_getElem?_getD, List.getD_eq_getElem?_getD, List.getElem?_reverse hj]
    have hs : ∀ j, j < M.length → M[j]? = some (M.getD j 0) := by
      intro j hj
      rw [List.getD_eq_getElem?_getD, List.getElem?_eq_getElem hj]
      rfl
    refine (rowL_mem L _ _).1 ?_
    split
    · rename_i hlt
      rw [hg i hi, hg (i + 1) hlt]
      exact hpar _ (h1 (M.length - 1 - (i + 1)) _ _ (hs _ (by omega)) (by rw [show M.length - 1 - (i + 1) + 1 = M.length - 1 - i by omega]; exact hs _ (by omega)))
    · rename_i hlt
      rw [hg i hi, hg 0 hlen]
      have e1 : M.length - 1 - i = 0 := by omega
      rw [e1, Nat.sub_zero]
      have e2 : M.getD 0 0 = stepB (wyN (nxL L) fr) fr := by rw [List.getD_eq_getElem?_getD, h2]; rfl
      have e3 : M.getD (M.length - 1) 0 = fr := by rw [List.getD_eq_getElem?_getD, hlast]; rfl
      rw [e2, e3]
      exact hpar _ hst
end Go.Proofs.YthbamhfnemdebaaGreat
namespace Go.Proofs.YthbamhfnemdebaaGreat
open Go.RowKit
theorem Rd.trans {N : Rw} {a b c : Int} (h : Rd N a b) (h2 : Rd N b c) : Rd N a c := by
  induction h2 with
  | one ht => exact .more h ht
  | more _ ht ih => exact .more ih ht
theorem Rd.mono {N N' : Rw} (hs : ∀ a t, t ∈ rowL N a → t ∈ rowL N' a) {a b : Int} (h : Rd N a b) : Rd N' a b := by
  induction h with
  | one ht => exact .one (hs _ _ ht)
  | more _ ht ih => exact .more ih (hs _ _ ht)
theorem Rd.first {N : Rw} {a b : Int} (h : Rd N a b) : ∃ t, t ∈ rowL N a := by
  induction h with
  | one ht => exact ⟨_, ht⟩
  | more _ _ ih => exact ih
theorem Rd.last {N : Rw} {a b : Int} (h : Rd N a b) : ∃ x, b ∈ rowL N x := by
  cases h with
  | one ht => exact ⟨_, ht⟩
  | more _ ht => exact ⟨_, ht⟩
end Go.Proofs.YthbamhfnemdebaaGreat
