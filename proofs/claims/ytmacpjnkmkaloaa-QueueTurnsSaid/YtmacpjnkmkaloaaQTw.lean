/-
  The walk of QueueTurns. No condition beside arguments that can be read.
-/
import Derived.Test.YtmacpjnkmkaloaaQDo
import Derived.Test.YtmacpjnkmkaloaaQTl
import Derived.Test.YtmacpjnkmkaloaaQLight
import Derived.Test.YtmacpjnkmkaloaaQSame
import Derived.Test.YtmacpjnkmkaloaaHx
import Derived.Test.YtmacpjnkmkaloaaSub
namespace Go.Proofs.Ytmacpjnkmkaloaa
open Go.RowKit
/-- The head behind k calls. -/
def stK (z : Nat → Nat → Int) : Nat → List Rq × Int
  | 0 => ([], 0)
  | k + 1 => doV (stK z k) ⟨z k 0 % 4, z k 1, z k 2, z k 3⟩
theorem stK_ord (z : Nat → Nat → Int) : ∀ k, k ≤ 40 → Ord (stK z k).2 (stK z k).1 ∧ (stK z k).2 ≤ k ∧ (stK z k).1.length ≤ k
  | 0, _ => ⟨ord_nil, Int.le_refl _, Nat.le_refl _⟩
  | k + 1, h => by
    obtain ⟨h1, h2, h3⟩ := stK_ord z k (by omega)
    have := ord_do (l := (stK z k).1) (n := (stK z k).2) ⟨z k 0 % 4, z k 1, z k 2, z k 3⟩ h1 (by omega)
    refine ⟨this.1, ?_, ?_⟩
    · have h4 := this.2.1
      show (doV (stK z k) _).2 ≤ ((k + 1 : Nat) : Int)
      have h5 : (doV (stK z k) ⟨z k 0 % 4, z k 1, z k 2, z k 3⟩).2 ≤ (stK z k).2 + 1 := h4
      omega
    · have h4 := this.2.2
      show (doV (stK z k) _).1.length ≤ k + 1
      have h5 : (doV (stK z k) ⟨z k 0 % 4, z k 1, z k 2, z k 3⟩).1.length ≤ (stK z k).1.length + 1 := h4
      omega
theorem Sep.two {w w' : World} {a b : Res} {rs : List Res} (h : Sep w' [a, b, old w]) (k : Sep w rs) : Sep w' (a :: b :: rs) := Sep.gstar.1 ((Sep.gstar.2 h).graft k)
theorem scan_ids : ∀ (g : Nat) (l : List Rq) (ids : List Int), (scanN g l ids).2.length ≤ ids.length + g
  | 0, l, ids => Nat.le_refl _
  | g + 1, l, ids => by
    unfold scanN
    split
    · exact Nat.le_add_right _ _
    · split
      · exact Nat.le_add_right _ _
      · have := scan_ids g (grant l (firstI l).toNat) (ids ++ [(l.getD (firstI l).toNat default).id])
        simp only [List.length_append, List.length_singleton] at this
        omega
theorem do_sep (t r n : Int) (sa : Option Addr) (sc : Nat) (l : List Rq) (k id txn mo : Int) (w : World) (rs : List Res) (hS : Sep w (vq (.slice sa l.length sc) l :: rs)) (hl : l.length ≤ 500) (hO : Ord n l) (hn : n < 4611686018427387904) :
    Calls Try.prog 18 #[hval t r (.slice sa l.length sc) n, .agg #[.int .i64 k, .int .i64 id, .int .i64 txn, .int .i64 mo]] w fun e w' => ∃ a c, e = .returned (hval t r (.slice a (doV (l, n) ⟨k % 4, id, txn, mo⟩).1.length c) (doV (l, n) ⟨k % 4, id, txn, mo⟩).2) ∧ Sep w' (vq (.slice a (doV (l, n) ⟨k % 4, id, txn, mo⟩).1.length c) (doV (l, n) ⟨k % 4, id, txn, mo⟩).1 :: rs) := by
  refine (do_any t r n _ l k id txn mo w hS.vq_rq hl hO hn).mono ?_
  rintro e w' (⟨rfl, hd, hb⟩ | ⟨a, c, rfl, q⟩)
  · rw [hd]
    exact ⟨sa, sc, rfl, hS.below hb⟩
  · exact ⟨a, c, rfl, (q.graft hS).drop1⟩
theorem held_two {P : Program} {ops : Array Oper} {Q : Exit → Act → World → Prop} {md : Region.Mode} {S : World → Prop} (i j : Nat) {oi oj : Oper} {fuel : Nat} {listed : Array Bool} {a : Act} {w : World} (hr : Region.ready md ops listed = [i, j]) (hi : ops[i]? = some oi) (hj : ops[j]? = some oj)
    (wi : Region.wanted oi (yielded ops a.tmps) = true) (wj : Region.wanted oj (yielded ops a.tmps) = true)
    (h1 : ∀ K : Act → World → Prop, Hid (∀ a w, S w → wpAnyH P md ops Q S fuel (listed.setIfInBounds i true) a w → K a w) → oi.wp P a w K Q)
    (h2 : ∀ K : Act → World → Prop, Hid (∀ a w, S w → wpAnyH P md ops Q S fuel (listed.setIfInBounds j true) a w → K a w) → oj.wp P a w K Q) : wpAnyH P md ops Q S (fuel + 1) listed a w :=
  wpAnyH_ready hr (by simp) (AllReadyH.cons hi (fun K hK => by
    rw [if_pos wi]
    exact h1 K (fun a w hS hW => hK a w hS (fun _ => hW))) (AllReadyH.cons hj (fun K hK => by
    rw [if_pos wj]
    exact h2 K (fun a w hS hW => hK a w hS (fun _ => hW))) AllReadyH.nil))
theorem decI (a b : Int) (h : a < b) : decide (a < b) = true := decide_eq_true h
set_option maxHeartbeats 20000000 in
set_option maxRecDepth 100000 in
theorem turns_inner (n : Int) (OB NB RB XB g1 c5 m c6 mi d6 i : Nat) (a6 b6 : Option Addr) (l1 l2 : List Rq) (ids : List Int) (w W : World) (id txn mode want since xid xtxn xmode xwant xs : Int) (him : i < m) (hlk : m ≤ 40) (hm1 : Hid (l1.length = m)) (hm2 : Hid (l2.length = m)) (hp2 : Hid (∀ j, j < m → plc l2 (l1.getD j default).id = j))
    (hti : Hid (∀ k, k < i → (l1.getD k default).mode = 0 → mode = 0 → xs = 0 → (l2.getD k default).since = 0)) (R : Exit → Act → World → Prop) (hRp : ∀ c t t' d w, R (.panic c) ⟨t, d⟩ w → R (.panic c) ⟨t', d⟩ w) (s0 s1 s2 s3 s4 s5 s6 s7 s9 s11 s12 s16 s18 s19 s20 s21 s22 s23 s24 s25 s26 s27 s28 s29 s30 s31 s32 s33 s34 s35 s36 s37 s38 s39 s40 s41 s42 s43 s44 s45 s46 s47 s48 s49 s50 s51 s52 s53 s54 s55 s56 s57 s58 s59 s60 s61 s62 s63 s64 s65 s66 s67 s68 s69 s70 s71 s72 s73 s74 s75 s76 s77 s78 s79 s80 s81 s82 s83 s84 s85 s86 s87 s88 s89 s90 s91 s92 s93 s94 s95 s96 s97 s98 s99 s100 s101 s102 s103 s104 s105 s106 s107 s108 s109 s110 s111 s112 s113 s114 s115 s116 s117 s118 s119 s120 s121 s122 s123 s124 s125 s126 s127 s128 s129 s130 s131 s132 s133 s134 s135 s136 s137 s138 s139 s140 s141 s142 s143 s144 s145 s146 s147 s148 s149 s150 s151 s152 s153 s154 s155 s156 s157 s158 s159 s160 s161 s162 s163 s164 s165 s166 s167 s168 s169 s170 s171 s172 s173 s174 s175 s176 s177 s178 s179 s180 s181 s182 s183 s184 s185 s186 s187 s188 s189 s190 s191 s192 s193 s194 s195 s196 s197 s198 s199 s200 s201 s202 s203 s204 s205 s206 s207 : Value)
    (hV5 : Hid (Sep W [blk XB 48 #[.int .i64 xid, .int .i64 xtxn, .int .i64 xmode, .int .i64 xwant, .int .i64 xs], blk RB 48 #[.int .i64 id, .int .i64 txn, .int .i64 mode, .int .i64 want, .int .i64 since], blk NB 26 #[.int .i64 0, .int .i64 (-1), .slice a6 m c6, .int .i64 n], vq (.slice a6 m c6) l2, vec 3 1 (.slice b6 mi d6) mi (ids.map (Value.int .i64)), blk OB 26 #[.int .i64 0, .int .i64 (-1), .slice (some ⟨g1, 0, none⟩) m c5, .int .i64 n], vq (.slice (some ⟨g1, 0, none⟩) m c5) l1, old w]))
    (hQ : ∀ (u4 u17 u18 u19 u20 u21 u127 u128 u129 u130 u131 u132 u133 u134 u135 u136 u137 u138 u139 u140 u141 u142 u143 u144 u145 u146 u147 u148 u149 u150 u151 u152 u153 u154 u155 u156 u157 u158 u159 u160 u161 u162 u163 u164 u165 u166 u167 u168 u169 : Value) (W' : World), Hid (Sep W' [blk XB 48 #[.int .i64 xid, .int .i64 xtxn, .int .i64 xmode, .int .i64 xwant, .int .i64 xs], blk RB 48 #[.int .i64 id, .int .i64 txn, .int .i64 mode, .int .i64 want, .int .i64 since], blk NB 26 #[.int .i64 0, .int .i64 (-1), .slice a6 m c6, .int .i64 n], vq (.slice a6 m c6) l2, vec 3 1 (.slice b6 mi d6) mi (ids.map (Value.int .i64)), blk OB 26 #[.int .i64 0, .int .i64 (-1), .slice (some ⟨g1, 0, none⟩) m c5, .int .i64 n], vq (.slice (some ⟨g1, 0, none⟩) m c5) l1, old w]) → R (.exit 4) ⟨List.toArray (s0 :: s1 :: s2 :: s3 :: u4 :: s5 :: s6 :: s7 :: .pointer (some ⟨OB, 0, none⟩) :: s9 :: .pointer (some ⟨NB, 0, none⟩) :: s11 :: s12 :: .int .i64 i :: .pointer (some ⟨RB, 0, none⟩) :: .pointer (some ⟨XB, 0, none⟩) :: s16 :: u17 :: u18 :: u19 :: u20 :: u21 :: s22 :: s23 :: s24 :: s25 :: s26 :: s27 :: s28 :: s29 :: s30 :: s31 :: s32 :: s33 :: s34 :: s35 :: s36 :: s37 :: s38 :: s39 :: s40 :: s41 :: s42 :: s43 :: s44 :: s45 :: s46 :: s47 :: s48 :: s49 :: s50 :: s51 :: s52 :: s53 :: s54 :: s55 :: s56 :: s57 :: s58 :: s59 :: s60 :: s61 :: s62 :: s63 :: s64 :: s65 :: s66 :: s67 :: s68 :: s69 :: s70 :: s71 :: s72 :: s73 :: s74 :: s75 :: s76 :: s77 :: s78 :: s79 :: s80 :: s81 :: s82 :: s83 :: s84 :: s85 :: s86 :: s87 :: s88 :: s89 :: s90 :: s91 :: s92 :: s93 :: s94 :: s95 :: s96 :: s97 :: s98 :: s99 :: s100 :: s101 :: s102 :: s103 :: s104 :: s105 :: s106 :: s107 :: s108 :: s109 :: s110 :: s111 :: s112 :: s113 :: s114 :: s115 :: s116 :: s117 :: s118 :: s119 :: s120 :: s121 :: s122 :: s123 :: s124 :: s125 :: s126 :: u127 :: u128 :: u129 :: u130 :: u131 :: u132 :: u133 :: u134 :: u135 :: u136 :: u137 :: u138 :: u139 :: u140 :: u141 :: u142 :: u143 :: u144 :: u145 :: u146 :: u147 :: u148 :: u149 :: u150 :: u151 :: u152 :: u153 :: u154 :: u155 :: u156 :: u157 :: u158 :: u159 :: u160 :: u161 :: u162 :: u163 :: u164 :: u165 :: u166 :: u167 :: u168 :: u169 :: s170 :: s171 :: s172 :: s173 :: s174 :: s175 :: s176 :: s177 :: s178 :: s179 :: s180 :: s181 :: s182 :: s183 :: s184 :: s185 :: s186 :: s187 :: s188 :: s189 :: s190 :: s191 :: s192 :: s193 :: s194 :: s195 :: s196 :: s197 :: s198 :: s199 :: s200 :: s201 :: s202 :: s203 :: s204 :: s205 :: s206 :: s207 :: []), []⟩ W') :
    Code.wp Try.prog (subF Try.f4 [1, 1, 1, 1, 1, 1, 1, 1, 1, 1, 1, 0, 1, 0, 0, 1, 0, 0, 1, 1, 1, 1, 1, 0]) R ⟨List.toArray (s0 :: s1 :: s2 :: s3 :: s4 :: s5 :: s6 :: s7 :: .pointer (some ⟨OB, 0, none⟩) :: s9 :: .pointer (some ⟨NB, 0, none⟩) :: s11 :: s12 :: .int .i64 i :: .pointer (some ⟨RB, 0, none⟩) :: .pointer (some ⟨XB, 0, none⟩) :: s16 :: .int .i64 0 :: s18 :: s19 :: s20 :: s21 :: s22 :: s23 :: s24 :: s25 :: s26 :: s27 :: s28 :: s29 :: s30 :: s31 :: s32 :: s33 :: s34 :: s35 :: s36 :: s37 :: s38 :: s39 :: s40 :: s41 :: s42 :: s43 :: s44 :: s45 :: s46 :: s47 :: s48 :: s49 :: s50 :: s51 :: s52 :: s53 :: s54 :: s55 :: s56 :: s57 :: s58 :: s59 :: s60 :: s61 :: s62 :: s63 :: s64 :: s65 :: s66 :: s67 :: s68 :: s69 :: s70 :: s71 :: s72 :: s73 :: s74 :: s75 :: s76 :: s77 :: s78 :: s79 :: s80 :: s81 :: s82 :: s83 :: s84 :: s85 :: s86 :: s87 :: s88 :: s89 :: s90 :: s91 :: s92 :: s93 :: s94 :: s95 :: s96 :: s97 :: s98 :: s99 :: s100 :: s101 :: s102 :: s103 :: s104 :: s105 :: s106 :: s107 :: s108 :: s109 :: s110 :: s111 :: s112 :: s113 :: s114 :: s115 :: s116 :: s117 :: s118 :: s119 :: s120 :: s121 :: s122 :: s123 :: s124 :: s125 :: s126 :: s127 :: s128 :: s129 :: s130 :: s131 :: s132 :: s133 :: s134 :: s135 :: s136 :: s137 :: s138 :: s139 :: s140 :: s141 :: s142 :: s143 :: s144 :: s145 :: s146 :: s147 :: s148 :: s149 :: s150 :: s151 :: s152 :: s153 :: s154 :: s155 :: s156 :: s157 :: s158 :: s159 :: s160 :: s161 :: s162 :: s163 :: s164 :: s165 :: s166 :: s167 :: s168 :: s169 :: s170 :: s171 :: s172 :: s173 :: s174 :: s175 :: s176 :: s177 :: s178 :: s179 :: s180 :: s181 :: s182 :: s183 :: s184 :: s185 :: s186 :: s187 :: s188 :: s189 :: s190 :: s191 :: s192 :: s193 :: s194 :: s195 :: s196 :: s197 :: s198 :: s199 :: s200 :: s201 :: s202 :: s203 :: s204 :: s205 :: s206 :: s207 :: []), []⟩ W := by
  replace hRp := Lib.hid hRp
  replace hQ := Lib.hid hQ
  change Code.wp _ (Code.loop _) _ _ _
  go_loopw [17] (fun y wr => ∃ k : Nat, k ≤ i ∧ y = .int .i64 k ∧ Hid (Sep wr [blk XB 48 #[.int .i64 xid, .int .i64 xtxn, .int .i64 xmode, .int .i64 xwant, .int .i64 xs], blk RB 48 #[.int .i64 id, .int .i64 txn, .int .i64 mode, .int .i64 want, .int .i64 since], blk NB 26 #[.int .i64 0, .int .i64 (-1), .slice a6 m c6, .int .i64 n], vq (.slice a6 m c6) l2, vec 3 1 (.slice b6 mi d6) mi (ids.map (Value.int .i64)), blk OB 26 #[.int .i64 0, .int .i64 (-1), .slice (some ⟨g1, 0, none⟩) m c5, .int .i64 n], vq (.slice (some ⟨g1, 0, none⟩) m c5) l1, old w])) (fun y _ => i - (intOf y).toNat)
  case atStart => exact ⟨0, Nat.zero_le _, rfl, hV5⟩
  case round =>
    clear hV5
    obtain ⟨k, hk, rfl, hV5⟩ := hrel
    by_cases hki : k < i
    · have hkm : k < m := by omega
      have HF := Lib.hid (fun W h => find_some 0 (-1) n (.slice a6 m c6) l2 (l1.getD k default).id W h (by rw [hm2.out]; omega) k (hp2.out k hkm) (by rw [hm2.out]; exact hkm))
      have htk := Lib.hid (hti.out k hki)
      generalize hpq : l1.getD k default = pq at *
      generalize l2.getD k default = yq at *
      replace hpq := Lib.hid hpq
      obtain ⟨pid, ptxn, pmode, pwant, psince⟩ := pq
      obtain ⟨yid, ytxn, ymode, ywant, ysince⟩ := yq
      unfold hval Rq.val at HF
      have i5 : (0 : Int) ≤ (k : Int) := by omega
      have i6 : (k : Int) < (m : Int) := by omega
      have i7 : (k : Int) < (i : Int) := by omega
      go_wp2_with fail
      replace hV5 := Lib.hid hV5.out.drew
      have hS := Lib.hid (show (fun W : World => Sep W [blk XB 48 #[.int .i64 xid, .int .i64 xtxn, .int .i64 xmode, .int .i64 xwant, .int .i64 xs], blk RB 48 #[.int .i64 id, .int .i64 txn, .int .i64 mode, .int .i64 want, .int .i64 since], blk NB 26 #[.int .i64 0, .int .i64 (-1), .slice a6 m c6, .int .i64 n], vq (.slice a6 m c6) l2, vec 3 1 (.slice b6 mi d6) mi (ids.map (Value.int .i64)), blk OB 26 #[.int .i64 0, .int .i64 (-1), .slice (some ⟨g1, 0, none⟩) m c5, .int .i64 n], vq (.slice (some ⟨g1, 0, none⟩) m c5) l1, old w]) _ from hV5.out)
      refine held_begin (fun W : World => Sep W [blk XB 48 #[.int .i64 xid, .int .i64 xtxn, .int .i64 xmode, .int .i64 xwant, .int .i64 xs], blk RB 48 #[.int .i64 id, .int .i64 txn, .int .i64 mode, .int .i64 want, .int .i64 since], blk NB 26 #[.int .i64 0, .int .i64 (-1), .slice a6 m c6, .int .i64 n], vq (.slice a6 m c6) l2, vec 3 1 (.slice b6 mi d6) mi (ids.map (Value.int .i64)), blk OB 26 #[.int .i64 0, .int .i64 (-1), .slice (some ⟨g1, 0, none⟩) m c5, .int .i64 n], vq (.slice (some ⟨g1, 0, none⟩) m c5) l1, old w]) (by kernel_rfl) hS.out ?_
      change wpAnyH _ _ _ _ _ 10 _ _ (World.drew _)
      generalize World.drew _ = wd at *
      refine held_take 0 ?w14 rfl (by kernel_rfl) (by kernel_rfl) (by kernel_rfl) (fun c t t' d w h => hRp.out c t t' d w h) (by kernel_rfl) hS.out ?x14 ?z14
      case x14 => intro W hW; skip; replace hW := Lib.hid hW; go_simp; try rfl
      case z14 =>
      simp only [Act.put, List.setIfInBounds_toArray, List.set_cons_succ, List.set_cons_zero, List.getElem_toArray, List.getElem_cons_zero, List.getElem_cons_succ]
      refine held_take 1 ?w15 rfl (by kernel_rfl) (by kernel_rfl) (by kernel_rfl) (fun c t t' d w h => hRp.out c t t' d w h) (by kernel_rfl) hS.out ?x15 ?z15
      case x15 => intro W hW; change Sep W _ at hW; obtain ⟨g1', hg1, hgl1, hmc1, q0, q1, q2, q3, q4, hfz1⟩ := (hW.bring 6 rfl).vq_at hm1.out hkm; injection hg1 with hg1; injection hg1 with hg1; subst hg1; rw [hpq.out] at q0 q1 q2 q3 q4; simp only at q0 q1 q2 q3 q4; obtain ⟨e0, d0, d1, d2, d3, _⟩ := hW.to5.b4; obtain ⟨_, r0, r1, r2, r3, r4, _⟩ := hW.to1.b5; replace hW := Lib.hid hW; go_simp; try rfl
      case z15 =>
      simp only [Act.put, List.setIfInBounds_toArray, List.set_cons_succ, List.set_cons_zero, List.getElem_toArray, List.getElem_cons_zero, List.getElem_cons_succ]
      refine held_take 2 ?w16 rfl (by kernel_rfl) (by kernel_rfl) (by kernel_rfl) (fun c t t' d w h => hRp.out c t t' d w h) (by kernel_rfl) hS.out ?x16 ?z16
      case x16 => intro W hW; skip; replace hW := Lib.hid hW; go_simp; try rfl
      case z16 =>
      simp only [Act.put, List.setIfInBounds_toArray, List.set_cons_succ, List.set_cons_zero, List.getElem_toArray, List.getElem_cons_zero, List.getElem_cons_succ]
      refine held_take 3 ?w17 rfl (by kernel_rfl) (by kernel_rfl) (by kernel_rfl) (fun c t t' d w h => hRp.out c t t' d w h) (by kernel_rfl) hS.out ?x17 ?z17
      case x17 => intro W hW; skip; replace hW := Lib.hid hW; go_simp; try rfl
      case z17 =>
      simp only [Act.put, List.setIfInBounds_toArray, List.set_cons_succ, List.set_cons_zero, List.getElem_toArray, List.getElem_cons_zero, List.getElem_cons_succ]
      refine held_take 4 ?w18 rfl (by kernel_rfl) (by kernel_rfl) (by kernel_rfl) (fun c t t' d w h => hRp.out c t t' d w h) (by kernel_rfl) hS.out ?x18 ?z18
      case x18 => intro W hW; change Sep W _ at hW; obtain ⟨g1', hg1, hgl1, hmc1, q0, q1, q2, q3, q4, hfz1⟩ := (hW.bring 6 rfl).vq_at hm1.out hkm; injection hg1 with hg1; injection hg1 with hg1; subst hg1; rw [hpq.out] at q0 q1 q2 q3 q4; simp only at q0 q1 q2 q3 q4; obtain ⟨e0, d0, d1, d2, d3, _⟩ := hW.to5.b4; obtain ⟨_, r0, r1, r2, r3, r4, _⟩ := hW.to1.b5; replace hW := Lib.hid hW; go_simp; try rfl
      case z18 =>
      simp only [Act.put, List.setIfInBounds_toArray, List.set_cons_succ, List.set_cons_zero, List.getElem_toArray, List.getElem_cons_zero, List.getElem_cons_succ]
      refine held_take 5 ?w19 rfl (by kernel_rfl) (by kernel_rfl) (by kernel_rfl) (fun c t t' d w h => hRp.out c t t' d w h) (by kernel_rfl) hS.out ?x19 ?z19
      case x19 => intro W hW; change Sep W _ at hW; obtain ⟨g1', hg1, hgl1, hmc1, q0, q1, q2, q3, q4, hfz1⟩ := (hW.bring 6 rfl).vq_at hm1.out hkm; injection hg1 with hg1; injection hg1 with hg1; subst hg1; rw [hpq.out] at q0 q1 q2 q3 q4; simp only at q0 q1 q2 q3 q4; obtain ⟨e0, d0, d1, d2, d3, _⟩ := hW.to5.b4; obtain ⟨_, r0, r1, r2, r3, r4, _⟩ := hW.to1.b5; replace hW := Lib.hid hW; go_simp; try rfl
      case z19 =>
      simp only [Act.put, List.setIfInBounds_toArray, List.set_cons_succ, List.set_cons_zero, List.getElem_toArray, List.getElem_cons_zero, List.getElem_cons_succ]
      refine held_two 6 7 (by kernel_rfl) rfl rfl (by kernel_rfl) (by kernel_rfl) (fun K hK => ?_) (fun K hK => ?_)
      · go_simp
        have hV6 := Lib.hid (hV5.out.alloc #[.int .i64 0, .int .i64 0, .int .i64 0, .int .i64 0, .int .i64 0] 48)
        refine hK.out _ _ hV6.out.tail ?_
        clear hK K
        try simp only [Act.put, List.setIfInBounds_toArray, List.set_cons_succ, List.set_cons_zero, List.getElem_toArray, List.getElem_cons_zero, List.getElem_cons_succ]
        refine held_one 7 (by kernel_rfl) rfl (by kernel_rfl) (fun K hK => ?_)
        go_simp
        have hV7 := hV6.out.alloc #[.int .i64 0, .int .i64 0, .int .i64 0, .int .i64 0, .int .i64 0] 48
        rw [World.size_alloc] at hV7
        replace hV7 := Lib.hid hV7
        refine hK.out _ _ hV7.out.tail.tail ?_
        clear hK K hV6 hS
        try simp only [Act.put, List.setIfInBounds_toArray, List.set_cons_succ, List.set_cons_zero, List.getElem_toArray, List.getElem_cons_zero, List.getElem_cons_succ]
        generalize wd.heap.size = FB at *
        generalize (wd.alloc (.cells #[.int .i64 0, .int .i64 0, .int .i64 0, .int .i64 0, .int .i64 0] 48)).alloc (.cells #[.int .i64 0, .int .i64 0, .int .i64 0, .int .i64 0, .int .i64 0] 48) = we at *
        obtain ⟨_, _, _, _, _, _, f0, f1, f2, f3, f4⟩ := hV7.out.b5
        obtain ⟨_, s0, s1, s2, s3, s4, f0, f1, f2, f3, f4⟩ := hV7.out.to1.b5
        refine held_one 8 (by kernel_rfl) rfl (by kernel_rfl) (fun K hK => ?_)
        go_simp
        replace hV7 := Lib.hid (((((hV7.out.to1.set 0 (.int .i64 pid)).set 1 (.int .i64 ptxn)).set 2 (.int .i64 pmode)).set 3 (.int .i64 pwant)).set 4 (.int .i64 psince))
        refine hK.out _ _ hV7.out.tail.tail ?_
        clear hK K s0 s1 s2 s3 s4 f0 f1 f2 f3 f4
        try simp only [Act.put, List.setIfInBounds_toArray, List.set_cons_succ, List.set_cons_zero, List.getElem_toArray, List.getElem_cons_zero, List.getElem_cons_succ]
        obtain ⟨_, s0, s1, s2, s3, s4, f0, f1, f2, f3, f4⟩ := hV7.out.to1.b5
        refine held_one 9 (by kernel_rfl) rfl (by kernel_rfl) (fun K hK => ?_)
        go_simp
        replace hV7 := Lib.hid (((((hV7.out.to1.set 0 (.int .i64 id)).set 1 (.int .i64 txn)).set 2 (.int .i64 mode)).set 3 (.int .i64 want)).set 4 (.int .i64 since))
        refine hK.out _ _ hV7.out.tail.tail ?_
        clear hK K s0 s1 s2 s3 s4 f0 f1 f2 f3 f4
        try simp only [Act.put, List.setIfInBounds_toArray, List.set_cons_succ, List.set_cons_zero, List.getElem_toArray, List.getElem_cons_zero, List.getElem_cons_succ]
        generalize ((((((((((we.setCell ⟨FB, 0, none⟩ (.int .i64 pid)).setCell ⟨FB, 1, none⟩ (.int .i64 ptxn)).setCell ⟨FB, 2, none⟩ (.int .i64 pmode)).setCell ⟨FB, 3, none⟩ (.int .i64 pwant)).setCell ⟨FB, 4, none⟩ (.int .i64 psince)).setCell ⟨FB + 1, 0, none⟩ (.int .i64 id)).setCell ⟨FB + 1, 1, none⟩ (.int .i64 txn)).setCell ⟨FB + 1, 2, none⟩ (.int .i64 mode)).setCell ⟨FB + 1, 3, none⟩ (.int .i64 want)).setCell ⟨FB + 1, 4, none⟩ (.int .i64 since)) = wf at *
        generalize FB + 1 = FC at *
        refine wpAnyH_done (by kernel_rfl) ?_ _
        obtain ⟨_, n0, n1, n2, n3, _⟩ := (hV7.out.bring 4 rfl).b4
        obtain ⟨_, s0, s1, s2, s3, s4, _⟩ := hV7.out.to1.b5
        go_wp2_with fail
        refine (HF.out _ (hV7.out.bring 5 rfl).vq_rq).mono ?_
        rintro e w8 ⟨rfl, b8⟩
        have hV9 := Lib.hid ((hV7.out.below b8).alloc #[.int .i64 yid, .int .i64 ytxn, .int .i64 ymode, .int .i64 ywant, .int .i64 ysince] 48)
        clear b8 hV7 HF n0 n1 n2 n3 s0 s1 s2 s3 s4
        obtain ⟨_, c0, c1, c2, c3, c4, _⟩ := hV9.out.b5
        obtain ⟨_, u0, u1, u2, u3, u4, _⟩ := hV9.out.to1.b5
        obtain ⟨_, v0, v1, v2, v3, v4, _⟩ := hV9.out.to2.b5
        obtain ⟨_, x0, x1, x2, x3, x4, _⟩ := hV9.out.to3.b5
        by_cases hp0 : pmode = 0
        · by_cases hm : mode = 0
          · by_cases hlt : psince < since
            · by_cases hy : 0 < ysince
              · by_cases hx0 : xs = 0
                · exact absurd (show ysince = 0 from htk.out hp0 hm hx0) (by omega)
                · subst hp0
                  subst hm
                  have h3 : (xs == 0) = false := beq_eq_false_iff_ne.2 hx0
                  have h2 : decide (0 < ysince) = true := decide_eq_true hy
                  have h1 : decide (psince < since) = true := decide_eq_true hlt
                  go_wp2_with fail
                  go_roundw
                  case rel => exact ⟨k + 1, by omega, by go_num, Lib.hid hV9.out.tail.tail.tail⟩
                  case measure => simp [intOf]; omega
              · subst hp0
                subst hm
                have h2 : decide (0 < ysince) = false := decide_eq_false hy
                have h1 : decide (psince < since) = true := decide_eq_true hlt
                go_wp2_with fail
                go_roundw
                case rel => exact ⟨k + 1, by omega, by go_num, Lib.hid hV9.out.tail.tail.tail⟩
                case measure => simp [intOf]; omega
            · subst hp0
              subst hm
              have h1 : decide (psince < since) = false := decide_eq_false hlt
              go_wp2_with fail
              go_roundw
              case rel => exact ⟨k + 1, by omega, by go_num, Lib.hid hV9.out.tail.tail.tail⟩
              case measure => simp [intOf]; omega
          · subst hp0
            have hm0 : (mode == 0) = false := beq_eq_false_iff_ne.2 hm
            go_wp2_with fail
            go_roundw
            case rel => exact ⟨k + 1, by omega, by go_num, Lib.hid hV9.out.tail.tail.tail⟩
            case measure => simp [intOf]; omega
        · have hp1 : (pmode == 0) = false := beq_eq_false_iff_ne.2 hp0
          go_wp2_with fail
          go_roundw
          case rel => exact ⟨k + 1, by omega, by go_num, Lib.hid hV9.out.tail.tail.tail⟩
          case measure => simp [intOf]; omega
      · go_simp
        have hV6 := Lib.hid (hV5.out.alloc #[.int .i64 0, .int .i64 0, .int .i64 0, .int .i64 0, .int .i64 0] 48)
        refine hK.out _ _ hV6.out.tail ?_
        clear hK K
        try simp only [Act.put, List.setIfInBounds_toArray, List.set_cons_succ, List.set_cons_zero, List.getElem_toArray, List.getElem_cons_zero, List.getElem_cons_succ]
        refine held_one 6 (by kernel_rfl) rfl (by kernel_rfl) (fun K hK => ?_)
        go_simp
        have hV7 := hV6.out.alloc #[.int .i64 0, .int .i64 0, .int .i64 0, .int .i64 0, .int .i64 0] 48
        rw [World.size_alloc] at hV7
        replace hV7 := Lib.hid hV7
        refine hK.out _ _ hV7.out.tail.tail ?_
        clear hK K hV6 hS
        try simp only [Act.put, List.setIfInBounds_toArray, List.set_cons_succ, List.set_cons_zero, List.getElem_toArray, List.getElem_cons_zero, List.getElem_cons_succ]
        generalize wd.heap.size = FB at *
        generalize (wd.alloc (.cells #[.int .i64 0, .int .i64 0, .int .i64 0, .int .i64 0, .int .i64 0] 48)).alloc (.cells #[.int .i64 0, .int .i64 0, .int .i64 0, .int .i64 0, .int .i64 0] 48) = we at *
        obtain ⟨_, _, _, _, _, _, f0, f1, f2, f3, f4⟩ := hV7.out.b5
        obtain ⟨_, s0, s1, s2, s3, s4, f0, f1, f2, f3, f4⟩ := hV7.out.b5
        refine held_one 8 (by kernel_rfl) rfl (by kernel_rfl) (fun K hK => ?_)
        go_simp
        replace hV7 := Lib.hid (((((hV7.out.set 0 (.int .i64 pid)).set 1 (.int .i64 ptxn)).set 2 (.int .i64 pmode)).set 3 (.int .i64 pwant)).set 4 (.int .i64 psince))
        refine hK.out _ _ hV7.out.tail.tail ?_
        clear hK K s0 s1 s2 s3 s4 f0 f1 f2 f3 f4
        try simp only [Act.put, List.setIfInBounds_toArray, List.set_cons_succ, List.set_cons_zero, List.getElem_toArray, List.getElem_cons_zero, List.getElem_cons_succ]
        obtain ⟨_, s0, s1, s2, s3, s4, f0, f1, f2, f3, f4⟩ := hV7.out.to1.b5
        refine held_one 9 (by kernel_rfl) rfl (by kernel_rfl) (fun K hK => ?_)
        go_simp
        replace hV7 := Lib.hid (((((hV7.out.to1.set 0 (.int .i64 id)).set 1 (.int .i64 txn)).set 2 (.int .i64 mode)).set 3 (.int .i64 want)).set 4 (.int .i64 since))
        refine hK.out _ _ hV7.out.tail.tail ?_
        clear hK K s0 s1 s2 s3 s4 f0 f1 f2 f3 f4
        try simp only [Act.put, List.setIfInBounds_toArray, List.set_cons_succ, List.set_cons_zero, List.getElem_toArray, List.getElem_cons_zero, List.getElem_cons_succ]
        generalize ((((((((((we.setCell ⟨FB + 1, 0, none⟩ (.int .i64 pid)).setCell ⟨FB + 1, 1, none⟩ (.int .i64 ptxn)).setCell ⟨FB + 1, 2, none⟩ (.int .i64 pmode)).setCell ⟨FB + 1, 3, none⟩ (.int .i64 pwant)).setCell ⟨FB + 1, 4, none⟩ (.int .i64 psince)).setCell ⟨FB, 0, none⟩ (.int .i64 id)).setCell ⟨FB, 1, none⟩ (.int .i64 txn)).setCell ⟨FB, 2, none⟩ (.int .i64 mode)).setCell ⟨FB, 3, none⟩ (.int .i64 want)).setCell ⟨FB, 4, none⟩ (.int .i64 since)) = wf at *
        generalize FB + 1 = FC at *
        refine wpAnyH_done (by kernel_rfl) ?_ _
        obtain ⟨_, n0, n1, n2, n3, _⟩ := (hV7.out.bring 4 rfl).b4
        obtain ⟨_, s0, s1, s2, s3, s4, _⟩ := hV7.out.to1.b5
        go_wp2_with fail
        refine (HF.out _ (hV7.out.bring 5 rfl).vq_rq).mono ?_
        rintro e w8 ⟨rfl, b8⟩
        have hV9 := Lib.hid ((hV7.out.below b8).alloc #[.int .i64 yid, .int .i64 ytxn, .int .i64 ymode, .int .i64 ywant, .int .i64 ysince] 48)
        clear b8 hV7 HF n0 n1 n2 n3 s0 s1 s2 s3 s4
        obtain ⟨_, c0, c1, c2, c3, c4, _⟩ := hV9.out.b5
        obtain ⟨_, u0, u1, u2, u3, u4, _⟩ := hV9.out.to1.b5
        obtain ⟨_, v0, v1, v2, v3, v4, _⟩ := hV9.out.to2.b5
        obtain ⟨_, x0, x1, x2, x3, x4, _⟩ := hV9.out.to3.b5
        by_cases hp0 : pmode = 0
        · by_cases hm : mode = 0
          · by_cases hlt : psince < since
            · by_cases hy : 0 < ysince
              · by_cases hx0 : xs = 0
                · exact absurd (show ysince = 0 from htk.out hp0 hm hx0) (by omega)
                · subst hp0
                  subst hm
                  have h3 : (xs == 0) = false := beq_eq_false_iff_ne.2 hx0
                  have h2 : decide (0 < ysince) = true := decide_eq_true hy
                  have h1 : decide (psince < since) = true := decide_eq_true hlt
                  go_wp2_with fail
                  go_roundw
                  case rel => exact ⟨k + 1, by omega, by go_num, Lib.hid hV9.out.tail.tail.tail⟩
                  case measure => simp [intOf]; omega
              · subst hp0
                subst hm
                have h2 : decide (0 < ysince) = false := decide_eq_false hy
                have h1 : decide (psince < since) = true := decide_eq_true hlt
                go_wp2_with fail
                go_roundw
                case rel => exact ⟨k + 1, by omega, by go_num, Lib.hid hV9.out.tail.tail.tail⟩
                case measure => simp [intOf]; omega
            · subst hp0
              subst hm
              have h1 : decide (psince < since) = false := decide_eq_false hlt
              go_wp2_with fail
              go_roundw
              case rel => exact ⟨k + 1, by omega, by go_num, Lib.hid hV9.out.tail.tail.tail⟩
              case measure => simp [intOf]; omega
          · subst hp0
            have hm0 : (mode == 0) = false := beq_eq_false_iff_ne.2 hm
            go_wp2_with fail
            go_roundw
            case rel => exact ⟨k + 1, by omega, by go_num, Lib.hid hV9.out.tail.tail.tail⟩
            case measure => simp [intOf]; omega
        · have hp1 : (pmode == 0) = false := beq_eq_false_iff_ne.2 hp0
          go_wp2_with fail
          go_roundw
          case rel => exact ⟨k + 1, by omega, by go_num, Lib.hid hV9.out.tail.tail.tail⟩
          case measure => simp [intOf]; omega
    · have hki2 : k = i := by omega
      subst hki2
      go_wp2_with fail
      exact hQ.out _ _ _ _ _ _ _ _ _ _ _ _ _ _ _ _ _ _ _ _ _ _ _ _ _ _ _ _ _ _ _ _ _ _ _ _ _ _ _ _ _ _ _ _ _ _ _ _ _ _ hV5
set_option maxHeartbeats 80000000 in
set_option maxRecDepth 100000 in
theorem turns_walk (a : Option Addr) (len cap : Nat) (z : Nat → Nat → Int) (lv : Int) (w : World) (hv : IsRows 4 w a len cap z) :
    Calls Try.prog 4 #[.slice a len cap, .int .i64 lv] w fun e w' => e = .returned (.bool true) ∧ Below w.heap.size w w' := by
  obtain ⟨hc1, hc2, hr⟩ := hv
  replace hr := Lib.hid hr
  by_cases h40 : len ≤ 40
  · have i40 : ¬ ((len : Int) > 40) := by omega
    go_enter Try.func4, Try.ntmps4
    go_wp2_with fail
    refine (lives_any _).mono ?_
    rintro e w1 ⟨rfl, b1⟩
    replace b1 := Lib.hid b1
    go_wp2_with fail
    refine (empty_any _).mono ?_
    rintro e w2 ⟨rfl, b2⟩
    unfold hval
    replace b1 := Lib.hid (belT b1.out b2)
    clear b2
    go_wp2_with fail
    have hS0 := Lib.hid (show Sep _ [vq (.slice none 0 0) [], blk w2.heap.size 26 #[.int .i64 0, .int .i64 (-1), .slice none 0 0, .int .i64 0], old w] from (((Sep.start w).below b1.out).alloc #[.int .i64 0, .int .i64 (-1), .slice none 0 0, .int .i64 0] 26).vec_nil _ _)
    clear b1
    generalize w2.heap.size = HB at *
    go_loopw [6] (fun x wr => ∃ (k : Nat) (sa : Option Addr) (sc : Nat), k ≤ len ∧ x = .int .i64 k ∧ Hid (Sep wr [vq (.slice sa (stK z k).1.length sc) (stK z k).1, blk HB 26 #[.int .i64 0, .int .i64 (-1), .slice sa (stK z k).1.length sc, .int .i64 (stK z k).2], old w])) (fun x _ => len - (intOf x).toNat)
    case atStart => exact ⟨0, none, 0, Nat.zero_le _, rfl, hS0⟩
    case round =>
      clear hS0
      obtain ⟨k, sa, sc, hk, rfl, hV⟩ := hrel
      obtain ⟨hO, hn, hln⟩ := stK_ord z k (by omega)
      by_cases hlt : k < len
      · obtain ⟨b, off, rfl, hbl, hz⟩ := hr.out (by omega)
        have y0 := Lib.hid (hz k hlt 0 (by omega)).1
        have y1 := Lib.hid (hz k hlt 1 (by omega)).1
        have y2 := Lib.hid (hz k hlt 2 (by omega)).1
        have y3 := Lib.hid (hz k hlt 3 (by omega)).1
        have hE := Lib.hid (show stK z (k + 1) = doV (stK z k) ⟨z k 0 % 4, z k 1, z k 2, z k 3⟩ from rfl)
        have i1 : (0 : Int) ≤ (k : Int) := by omega
        have i2 : (k : Int) < (len : Int) := by omega
        generalize stK z k = st at *
        obtain ⟨l, n⟩ := st
        simp only at hO hn hln hV
        have HD := Lib.hid (fun W rs h => do_sep 0 (-1) n sa sc l (z k 0) (z k 1) (z k 2) (z k 3) W rs h (by omega) hO (by omega))
        rw [← hE.out] at HD
        unfold hval at HD
        obtain ⟨s2, hs2⟩ : ∃ s2, stK z (k + 1) = s2 := ⟨_, rfl⟩
        rw [hs2] at HD
        obtain ⟨l2, n2⟩ := s2
        replace hs2 := Lib.hid hs2
        simp only at HD
        clear hE hz hO hn hln
        generalize z k 0 = c0 at *
        generalize z k 1 = c1 at *
        generalize z k 2 = c2 at *
        generalize z k 3 = c3 at *
        go_wp2_with fail
        replace hV := Lib.hid hV.out.drew
        have hS := Lib.hid (show (fun W : World => Sep W [blk HB 26 #[.int .i64 0, .int .i64 (-1), .slice sa l.length sc, .int .i64 n], old w]) _ from hV.out.tail)
        refine hx_begin (fun W : World => Sep W [blk HB 26 #[.int .i64 0, .int .i64 (-1), .slice sa l.length sc, .int .i64 n], old w]) 6 [(0, true), (1, true), (2, true), (3, true), (4, true), (5, false), (6, false)] [(5, 6), (0, 6), (1, 6), (2, 6), (3, 6), (4, 6)] (by kernel_rfl) (by kernel_rfl) (by kernel_rfl) (by kernel_rfl) rfl (by kernel_rfl) (by kernel_rfl) (fun _ _ _ _ _ h => h) hS.out ?_
        change HX _ _ _ _ _ _ _ (World.drew _)
        generalize World.drew _ = wd at *
        refine hx_take ?v1 rfl (by kernel_rfl) ?y1 ?z1
        case y1 => intro W hW; change Sep W _ at hW; obtain ⟨x0, d0, d1, d2, d3, g0, g1, g2, g3⟩ := hW.b4; have z0 := (hW.to1.gold.cell (p := ⟨b, off + k * 4, none⟩) hbl).trans y0.out; have z1 := (hW.to1.gold.cell (p := ⟨b, off + k * 4 + 1, none⟩) hbl).trans y1.out; have z2 := (hW.to1.gold.cell (p := ⟨b, off + k * 4 + 2, none⟩) hbl).trans y2.out; have z3 := (hW.to1.gold.cell (p := ⟨b, off + k * 4 + 3, none⟩) hbl).trans y3.out; replace hW := Lib.hid hW; go_simp; try rfl
        case z1 =>
        simp only [Act.put, List.setIfInBounds_toArray, List.set_cons_succ, List.set_cons_zero, List.getElem_toArray, List.getElem_cons_zero, List.getElem_cons_succ]
        refine hx_take ?v2 rfl (by kernel_rfl) ?y2 ?z2
        case y2 => intro W hW; skip; replace hW := Lib.hid hW; go_simp; try rfl
        case z2 =>
        simp only [Act.put, List.setIfInBounds_toArray, List.set_cons_succ, List.set_cons_zero, List.getElem_toArray, List.getElem_cons_zero, List.getElem_cons_succ]
        refine hx_take ?v3 rfl (by kernel_rfl) ?y3 ?z3
        case y3 => intro W hW; skip; replace hW := Lib.hid hW; go_simp; try rfl
        case z3 =>
        simp only [Act.put, List.setIfInBounds_toArray, List.set_cons_succ, List.set_cons_zero, List.getElem_toArray, List.getElem_cons_zero, List.getElem_cons_succ]
        refine hx_take ?v4 rfl (by kernel_rfl) ?y4 ?z4
        case y4 => intro W hW; skip; replace hW := Lib.hid hW; go_simp; try rfl
        case z4 =>
        simp only [Act.put, List.setIfInBounds_toArray, List.set_cons_succ, List.set_cons_zero, List.getElem_toArray, List.getElem_cons_zero, List.getElem_cons_succ]
        refine hx_take ?v5 rfl (by kernel_rfl) ?y5 ?z5
        case y5 => intro W hW; change Sep W _ at hW; obtain ⟨x0, d0, d1, d2, d3, g0, g1, g2, g3⟩ := hW.b4; have z0 := (hW.to1.gold.cell (p := ⟨b, off + k * 4, none⟩) hbl).trans y0.out; have z1 := (hW.to1.gold.cell (p := ⟨b, off + k * 4 + 1, none⟩) hbl).trans y1.out; have z2 := (hW.to1.gold.cell (p := ⟨b, off + k * 4 + 2, none⟩) hbl).trans y2.out; have z3 := (hW.to1.gold.cell (p := ⟨b, off + k * 4 + 3, none⟩) hbl).trans y3.out; replace hW := Lib.hid hW; go_simp; try rfl
        case z5 =>
        simp only [Act.put, List.setIfInBounds_toArray, List.set_cons_succ, List.set_cons_zero, List.getElem_toArray, List.getElem_cons_zero, List.getElem_cons_succ]
        refine hx_one (by decide) rfl (by kernel_rfl) (fun K hK => ?_)
        go_simp
        refine (HD.out _ _ hV.out).mono ?_
        rintro e w3 ⟨a3, c3', rfl, q⟩
        replace hV := Lib.hid q
        clear q
        refine hK.out _ _ hV.out.tail ?_
        clear hK K
        try simp only [Act.put, List.setIfInBounds_toArray, List.set_cons_succ, List.set_cons_zero, List.getElem_toArray, List.getElem_cons_zero, List.getElem_cons_succ]
        refine hx_last rfl (by kernel_rfl) (fun K hK => ?_)
        obtain ⟨x0, d0, d1, d2, d3, g0, g1, g2, g3⟩ := hV.out.to1.b4
        go_simp
        refine hK.out _ _ ?_
        clear hK K
        try simp only [Act.put, List.setIfInBounds_toArray, List.set_cons_succ, List.set_cons_zero, List.getElem_toArray, List.getElem_cons_zero, List.getElem_cons_succ]
        refine hx_done ?_
        skip
        clear hS
        go_wp2_with fail
        go_roundw
        case rel => exact ⟨k + 1, a3, c3', by omega, by go_num, by rw [hs2.out]; exact Lib.hid ((((hV.out.to1.set 0 (.int .i64 0)).set 1 (.int .i64 (-1))).set 2 (.slice a3 l2.length c3')).set 3 (.int .i64 n2)).to1⟩
        case measure => simp [intOf]; omega
      · obtain rfl : k = len := by omega
        generalize stK z k = st at *
        obtain ⟨l, n⟩ := st
        simp only at hO hn hln hV
        obtain ⟨x0, d0, d1, d2, d3, g0, g1, g2, g3⟩ := hV.out.to1.b4
        by_cases hl0 : l.length = 0
        · have hl0' : ((l.length : Int) == 0) = true := by simp [hl0]
          have hl0'' : (l.length : Int) = 0 := by omega
          clear hln
          go_wp2_with fail
          go_ret
          exact ⟨rfl, hV.out.to2.gold⟩
        · obtain ⟨p, hp⟩ := pick_nat lv l.length (by omega) (by omega)
          have hpl : p < l.length := by have := hp.lt; omega
          have hl0' : ((l.length : Int) == 0) = false := beq_eq_false_iff_ne.2 (by omega)
          have hl0'' : ¬ (l.length : Int) = 0 := by omega
          have hplc := plc_at hO p hpl
          obtain ⟨g, rfl, hgl, hmc, q0, q1, q2, q3, q4, hfz⟩ := hV.out.vq_at rfl hpl
          have hHL := fun id0 (hi : plc l id0 = p) => (show lvV l n id0 = some (keepQ (fun q => q.id == id0) l, n) by unfold lvV; rw [if_neg (by omega)])
          generalize hid0 : (l.getD p default).id = id0 at *
          replace hHL := hHL id0 hplc
          have hO1 : Ord n (keepQ (fun q => q.id == id0) l) := ord_keep _ hO
          have HLv := Lib.hid (fun W h => lv_ok 0 (-1) n (.slice (some ⟨g, 0, none⟩) l.length sc) l id0 W h (by omega) hHL)
          have hlk : (keepQ (fun q => q.id == id0) l).length ≤ 40 := by
            exact Nat.le_trans (List.length_filter_le _ _) (by omega)
          simp only at HLv
          unfold hval at HLv
          generalize keepQ (fun q => q.id == id0) l = l1 at *
          have hR := rel_scan (opens l1) l1 [] hO1 (rel_start hO1)
          have hO2 := ord_scan (opens l1) l1 [] hO1
          have hmi0 := scan_ids (opens l1) l1 []
          have hop := opens_le l1
          have hw1 := checkB_wants _ _ ((ord_iff _ _).2 hO1)
          have HS := fun W h => scan_any 0 (-1) n (.slice (some ⟨g, 0, none⟩) l.length sc) l1 W h (by omega) hw1
          clear HS
          have hp1 := Lib.hid (fun j (hj : j < l1.length) => plc_at hO1 j hj)
          have hpr := Lib.hid (fun j (hj : j < l1.length) => hO1.right _ (getD_mem l1 j hj))
          have HS := Lib.hid (fun a c W h => scan_any 0 (-1) n (.slice a l1.length c) l1 W h (by omega) hw1)
          unfold hval at HS
          obtain ⟨l2, hl2⟩ : ∃ l2, (scanN (opens l1) l1 []).1 = l2 := ⟨_, rfl⟩
          obtain ⟨ids, hids⟩ : ∃ ids, (scanN (opens l1) l1 []).2 = ids := ⟨_, rfl⟩
          simp only [hl2, hids] at HS
          rw [hl2, hids] at hR
          rw [hl2] at hO2
          rw [hids] at hmi0
          clear hl2 hids
          obtain ⟨m, hm1⟩ : ∃ m, l1.length = m := ⟨_, rfl⟩
          have hm2 := hR.len
          obtain ⟨hRl, hone, hturn, hwho⟩ := hR
          have hp2 : Hid (∀ j, j < m → plc l2 (l1.getD j default).id = j) := Lib.hid fun j hj => by
            have e : (l2.getD j default).id = (l1.getD j default).id := by
              rcases hone j (by omega) with h | ⟨_, h⟩ <;> rw [h] <;> rfl
            rw [← e]
            exact plc_at hO2 j (by omega)
          rw [hm1] at hm2 hlk hop
          simp only [hm1, hm2] at HS HLv hp1 hpr hone hturn hwho
          obtain ⟨mi, hmi⟩ : ∃ mi, ids.length = mi := ⟨_, rfl⟩
          simp only [hmi] at HS hmi0
          replace HS := Lib.hid HS.out
          replace HLv := Lib.hid HLv.out
          replace hone := Lib.hid hone
          replace hturn := Lib.hid hturn
          replace hwho := Lib.hid hwho
          replace hm1 := Lib.hid hm1
          replace hm2 := Lib.hid hm2
          have hmi1 : mi ≤ 40 := by simp only [List.length_nil] at hmi0; omega
          clear hmi0 hop
          replace hmi := Lib.hid hmi
          clear hRl hO2 hO1 hw1 hHL hplc hO hn
          have i1 : (0 : Int) ≤ (p : Int) := by omega
          have i2 : (p : Int) < (l.length : Int) := by omega
          have hpr2 := hp.run
          replace hid0 := Lib.hid hid0
          clear q0 q1 q2 q3 q4 hfz hgl hp
          go_wp2_with fail
          replace hV := Lib.hid hV.out.drew
          have hS := Lib.hid (show (fun W : World => Sep W [vq (.slice (some ⟨g, 0, none⟩) l.length sc) l, blk HB 26 #[.int .i64 0, .int .i64 (-1), .slice (some ⟨g, 0, none⟩) l.length sc, .int .i64 n], old w]) _ from hV.out)
          refine hl_begin (fun W : World => Sep W [vq (.slice (some ⟨g, 0, none⟩) l.length sc) l, blk HB 26 #[.int .i64 0, .int .i64 (-1), .slice (some ⟨g, 0, none⟩) l.length sc, .int .i64 n], old w]) [(0, true), (1, true), (2, true), (3, true), (4, true), (5, true), (6, false), (7, true), (8, true), (9, true), (10, true)] (by kernel_rfl) (by kernel_rfl) (by kernel_rfl) rfl (fun _ _ _ _ _ h => h) hS.out ?_
          change HL _ _ _ _ _ _ (World.drew _)
          generalize World.drew _ = wd at *
          refine hl_take ?v6 rfl (by kernel_rfl) ?y6 ?z6
          case y6 => intro W hW; skip; replace hW := Lib.hid hW; go_simp; try rfl
          case z6 =>
          simp only [Act.put, List.setIfInBounds_toArray, List.set_cons_succ, List.set_cons_zero, List.getElem_toArray, List.getElem_cons_zero, List.getElem_cons_succ]
          refine hl_take ?v7 rfl (by kernel_rfl) ?y7 ?z7
          case y7 => intro W hW; change Sep W _ at hW; obtain ⟨g', hg', hgl, hmc, q0, q1, q2, q3, q4, hfz⟩ := hW.vq_at rfl hpl; injection hg' with hg'; injection hg' with hg'; subst hg'; rw [hid0.out] at q0; obtain ⟨x0, d0, d1, d2, d3, g0, g1, g2, g3⟩ := hW.to1.b4; replace hW := Lib.hid hW; go_simp; try rfl
          case z7 =>
          simp only [Act.put, List.setIfInBounds_toArray, List.set_cons_succ, List.set_cons_zero, List.getElem_toArray, List.getElem_cons_zero, List.getElem_cons_succ]
          refine hl_take ?v8 rfl (by kernel_rfl) ?y8 ?z8
          case y8 => intro W hW; skip; replace hW := Lib.hid hW; go_simp; try rfl
          case z8 =>
          simp only [Act.put, List.setIfInBounds_toArray, List.set_cons_succ, List.set_cons_zero, List.getElem_toArray, List.getElem_cons_zero, List.getElem_cons_succ]
          refine hl_take ?v9 rfl (by kernel_rfl) ?y9 ?z9
          case y9 => intro W hW; skip; replace hW := Lib.hid hW; go_simp; try rfl
          case z9 =>
          simp only [Act.put, List.setIfInBounds_toArray, List.set_cons_succ, List.set_cons_zero, List.getElem_toArray, List.getElem_cons_zero, List.getElem_cons_succ]
          refine hl_take ?v10 rfl (by kernel_rfl) ?y10 ?z10
          case y10 => intro W hW; change Sep W _ at hW; obtain ⟨g', hg', hgl, hmc, q0, q1, q2, q3, q4, hfz⟩ := hW.vq_at rfl hpl; injection hg' with hg'; injection hg' with hg'; subst hg'; rw [hid0.out] at q0; obtain ⟨x0, d0, d1, d2, d3, g0, g1, g2, g3⟩ := hW.to1.b4; replace hW := Lib.hid hW; go_simp; try rfl
          case z10 =>
          simp only [Act.put, List.setIfInBounds_toArray, List.set_cons_succ, List.set_cons_zero, List.getElem_toArray, List.getElem_cons_zero, List.getElem_cons_succ]
          refine hl_take ?v11 rfl (by kernel_rfl) ?y11 ?z11
          case y11 => intro W hW; skip; replace hW := Lib.hid hW; go_simp; try rfl
          case z11 =>
          simp only [Act.put, List.setIfInBounds_toArray, List.set_cons_succ, List.set_cons_zero, List.getElem_toArray, List.getElem_cons_zero, List.getElem_cons_succ]
          refine hl_one rfl (by kernel_rfl) (fun K hK => ?_)
          go_simp
          refine (hpr2.out _).mono ?_
          rintro e w3 ⟨rfl, rfl⟩
          refine hK.out _ _ hS.out ?_
          clear hK K
          try simp only [Act.put, List.setIfInBounds_toArray, List.set_cons_succ, List.set_cons_zero, List.getElem_toArray, List.getElem_cons_zero, List.getElem_cons_succ]
          refine hl_take ?v12 rfl (by kernel_rfl) ?y12 ?z12
          case y12 => intro W hW; skip; replace hW := Lib.hid hW; go_simp; try rfl
          case z12 =>
          simp only [Act.put, List.setIfInBounds_toArray, List.set_cons_succ, List.set_cons_zero, List.getElem_toArray, List.getElem_cons_zero, List.getElem_cons_succ]
          refine hl_take ?v13 rfl (by kernel_rfl) ?y13 ?z13
          case y13 => intro W hW; skip; replace hW := Lib.hid hW; go_simp; try rfl
          case z13 =>
          simp only [Act.put, List.setIfInBounds_toArray, List.set_cons_succ, List.set_cons_zero, List.getElem_toArray, List.getElem_cons_zero, List.getElem_cons_succ]
          refine hl_take ?v14 rfl (by kernel_rfl) ?y14 ?z14
          case y14 => intro W hW; change Sep W _ at hW; obtain ⟨g', hg', hgl, hmc, q0, q1, q2, q3, q4, hfz⟩ := hW.vq_at rfl hpl; injection hg' with hg'; injection hg' with hg'; subst hg'; rw [hid0.out] at q0; obtain ⟨x0, d0, d1, d2, d3, g0, g1, g2, g3⟩ := hW.to1.b4; replace hW := Lib.hid hW; go_simp; try rfl
          case z14 =>
          simp only [Act.put, List.setIfInBounds_toArray, List.set_cons_succ, List.set_cons_zero, List.getElem_toArray, List.getElem_cons_zero, List.getElem_cons_succ]
          refine hl_take ?v15 rfl (by kernel_rfl) ?y15 ?z15
          case y15 => intro W hW; skip; replace hW := Lib.hid hW; go_simp; try rfl
          case z15 =>
          simp only [Act.put, List.setIfInBounds_toArray, List.set_cons_succ, List.set_cons_zero, List.getElem_toArray, List.getElem_cons_zero, List.getElem_cons_succ]
          refine hl_done ?_
          skip
          clear hS x0 d0 d1 d2 d3 g0 g1 g2 g3
          obtain ⟨x0, d0, d1, d2, d3, g0, g1, g2, g3⟩ := hV.out.to1.b4
          go_wp2_with fail
          refine (HLv.out _ hV.out.vq_rq).mono ?_
          rintro e w5 ⟨a5, c5, rfl, hS5⟩
          have hV2 := Lib.hid ((hS5.graft hV.out).alloc #[.int .i64 0, .int .i64 (-1), .slice a5 m c5, .int .i64 n] 26)
          clear hS5 hV HLv x0 d0 d1 d2 d3 g0 g1 g2 g3
          go_wp2_with fail
          refine (HS.out _ _ _ hV2.out.to1.vq_rq).mono ?_
          rintro e w6 ⟨a6, c6, b6, d6, rfl, hS6⟩
          replace hV2 := Lib.hid (show Sep _ [vq (.slice a6 m c6) l2, vec 3 1 (.slice b6 mi d6) mi (ids.map (Value.int .i64)), blk w5.heap.size 26 #[.int .i64 0, .int .i64 (-1), .slice a5 m c5, .int .i64 n], vq (.slice a5 m c5) l1, old w] from (((hS6.two hV2.out).bring 4 rfl).tail.bring 4 rfl).tail)
          clear hS6 HS
          generalize w5.heap.size = OB at *
          have hV := Lib.hid (hV2.out.alloc #[.int .i64 0, .int .i64 (-1), .slice a6 m c6, .int .i64 n] 26)
          clear hV2
          go_wp2_with fail
          generalize w6.heap.size = NB at *
          go_loopw [12, 13] (fun u x wr => ∃ (i : Nat) (up : Int), i ≤ m ∧ x = .int .i64 i ∧ u = .int .i64 up ∧ Hid (0 ≤ up → ∃ j, j < m ∧ upB (l1.getD j default) = true ∧ 0 < (l2.getD j default).since) ∧ Hid (Sep wr [blk NB 26 #[.int .i64 0, .int .i64 (-1), .slice a6 m c6, .int .i64 n], vq (.slice a6 m c6) l2, vec 3 1 (.slice b6 mi d6) mi (ids.map (Value.int .i64)), blk OB 26 #[.int .i64 0, .int .i64 (-1), .slice a5 m c5, .int .i64 n], vq (.slice a5 m c5) l1, old w])) (fun _ x _ => m - (intOf x).toNat)
          case atStart => exact ⟨0, -1, Nat.zero_le _, rfl, rfl, Lib.hid (fun h => absurd h (by decide)), hV⟩
          case round =>
            clear hV
            obtain ⟨i, up, hi, rfl, rfl, hup, hV⟩ := hrel
            by_cases him : i < m
            · obtain ⟨g1, rfl, hgl1, hmc1, q0, q1, q2, q3, q4, hfz1⟩ := hV.out.to4.vq_at hm1.out him
              have hx := hone.out i him
              have hpri := hpr.out i him
              have HF := Lib.hid (fun W h => find_some 0 (-1) n (.slice a6 m c6) l2 (l1.getD i default).id W h (by rw [hm2.out]; omega) i (hp2.out i him) (by rw [hm2.out]; exact him))
              obtain ⟨e0, d0, d1, d2, d3, _⟩ := hV.out.to3.b4
              obtain ⟨xv, hxv⟩ : ∃ xv, l2.getD i default = xv := ⟨_, rfl⟩
              rw [hxv] at HF hx
              generalize hq : l1.getD i default = q at *
              replace hq := Lib.hid hq
              replace hxv := Lib.hid hxv
              obtain ⟨id, txn, mode, want, since⟩ := q
              obtain ⟨_, _, _, hps, _, _, hpw⟩ := hpri
              simp only at q0 q1 q2 q3 q4 hpw hps hx HF
              have hV4 := Lib.hid (hV.out.alloc #[.int .i64 id, .int .i64 txn, .int .i64 mode, .int .i64 want, .int .i64 since] 48)
              obtain ⟨_, r0, r1, r2, r3, r4, _⟩ := hV4.out.b5
              obtain ⟨_, n0, n1, n2, n3, _⟩ := hV4.out.to1.b4
              have i3 : (0 : Int) ≤ (i : Int) := by omega
              have i4 : (i : Int) < (m : Int) := by omega
              unfold hval Rq.val at HF
              clear hgl1 hmc1 hfz1 e0
              rcases hx with hx | ⟨hs, hx⟩
              · subst hx
                by_cases hm : mode = 0
                · subst hm
                  have hs : 0 < since := by
                    rcases Int.lt_or_le 0 since with h | h
                    · exact h
                    · exact absurd rfl (hpw (by omega)).1
                  have hs0 : (since == 0) = false := beq_eq_false_iff_ne.2 (by omega)
                  clear hpw hps
                  go_wp2_with fail
                  refine (HF.out _ hV4.out.to2.vq_rq).mono ?_
                  rintro e w7 ⟨rfl, b7⟩
                  have hV5 := Lib.hid ((hV4.out.below b7).alloc #[.int .i64 id, .int .i64 txn, .int .i64 0, .int .i64 want, .int .i64 since] 48)
                  generalize wr.heap.size = RB at *
                  clear b7 hV4 HF r0 r1 r2 r3 r4 n0 n1 n2 n3 q0 q1 q2 q3 q4 d0 d1 d2 d3
                  obtain ⟨_, x0, x1, x2, x3, x4, _⟩ := hV5.out.b5
                  obtain ⟨_, r0, r1, r2, r3, r4, _⟩ := hV5.out.to1.b5
                  go_wp2_with fail
                  generalize w7.heap.size = XB at *
                  clear x0 x1 x2 x3 x4 r0 r1 r2 r3 r4
                  refine turns_inner n OB NB RB XB g1 c5 m c6 mi d6 i a6 b6 l1 l2 ids w _ id txn 0 want since id txn 0 want since him hlk hm1 hm2 hp2 (Lib.hid (fun k hk h1 h2 h3 => hturn.out k i hk him h1 (by first | exact h2 | (rw [hq.out]; exact h2) | rw [hq.out]) (by first | exact h3 | (rw [hxv.out]; exact h3) | rw [hxv.out]))) _ (fun _ _ _ _ _ h => h) _ _ _ _ _ _ _ _ _ _ _ _ _ _ _ _ _ _ _ _ _ _ _ _ _ _ _ _ _ _ _ _ _ _ _ _ _ _ _ _ _ _ _ _ _ _ _ _ _ _ _ _ _ _ _ _ _ _ _ _ _ _ _ _ _ _ _ _ _ _ _ _ _ _ _ _ _ _ _ _ _ _ _ _ _ _ _ _ _ _ _ _ _ _ _ _ _ _ _ _ _ _ _ _ _ _ _ _ _ _ _ _ _ _ _ _ _ _ _ _ _ _ _ _ _ _ _ _ _ _ _ _ _ _ _ _ _ _ _ _ _ _ _ _ _ _ _ _ _ _ _ _ _ _ _ _ _ _ _ _ _ _ _ _ _ _ _ _ _ _ _ _ _ _ _ _ _ _ _ _ _ _ _ _ _ _ _ _ _ _ _ _ _ _ _ _ _ _ _ _ _ _ hV5 ?_
                  intro u4 u17 u18 u19 u20 u21 u127 u128 u129 u130 u131 u132 u133 u134 u135 u136 u137 u138 u139 u140 u141 u142 u143 u144 u145 u146 u147 u148 u149 u150 u151 u152 u153 u154 u155 u156 u157 u158 u159 u160 u161 u162 u163 u164 u165 u166 u167 u168 u169 W' hV6
                  clear hV5
                  go_wp2_with fail
                  go_roundw
                  case rel => exact ⟨i + 1, up, by omega, by go_num, by first | rfl | go_num, hup, Lib.hid hV6.out.tail.tail⟩
                  case measure => simp [intOf]; omega
                · have hm0 : (mode == 0) = false := beq_eq_false_iff_ne.2 hm
                  have hm1' : (mode != 0) = true := by simpa using hm
                  by_cases hs : since = 0
                  · subst hs
                    have hqa : ∀ W, (binOp .neq 48 (.agg #[.int .i64 id, .int .i64 txn, .int .i64 mode, .int .i64 want, .int .i64 0]) (.agg #[.int .i64 id, .int .i64 txn, .int .i64 mode, .int .i64 want, .int .i64 0])).run Try.prog W = .ok (.bool false) W := fun W => by rw [run_neq_req]; simp [reqB]
                    clear hpw hps
                    go_wp2_with fail
                    refine (HF.out _ hV4.out.to2.vq_rq).mono ?_
                    rintro e w7 ⟨rfl, b7⟩
                    have hV5 := Lib.hid ((hV4.out.below b7).alloc #[.int .i64 id, .int .i64 txn, .int .i64 mode, .int .i64 want, .int .i64 0] 48)
                    generalize wr.heap.size = RB at *
                    clear b7 hV4 HF r0 r1 r2 r3 r4 n0 n1 n2 n3 q0 q1 q2 q3 q4 d0 d1 d2 d3
                    obtain ⟨_, x0, x1, x2, x3, x4, _⟩ := hV5.out.b5
                    obtain ⟨_, r0, r1, r2, r3, r4, _⟩ := hV5.out.to1.b5
                    go_wp2_with fail
                    generalize w7.heap.size = XB at *
                    clear x0 x1 x2 x3 x4 r0 r1 r2 r3 r4
                    refine turns_inner n OB NB RB XB g1 c5 m c6 mi d6 i a6 b6 l1 l2 ids w _ id txn mode want 0 id txn mode want 0 him hlk hm1 hm2 hp2 (Lib.hid (fun k hk h1 h2 h3 => hturn.out k i hk him h1 (by first | exact h2 | (rw [hq.out]; exact h2) | rw [hq.out]) (by first | exact h3 | (rw [hxv.out]; exact h3) | rw [hxv.out]))) _ (fun _ _ _ _ _ h => h) _ _ _ _ _ _ _ _ _ _ _ _ _ _ _ _ _ _ _ _ _ _ _ _ _ _ _ _ _ _ _ _ _ _ _ _ _ _ _ _ _ _ _ _ _ _ _ _ _ _ _ _ _ _ _ _ _ _ _ _ _ _ _ _ _ _ _ _ _ _ _ _ _ _ _ _ _ _ _ _ _ _ _ _ _ _ _ _ _ _ _ _ _ _ _ _ _ _ _ _ _ _ _ _ _ _ _ _ _ _ _ _ _ _ _ _ _ _ _ _ _ _ _ _ _ _ _ _ _ _ _ _ _ _ _ _ _ _ _ _ _ _ _ _ _ _ _ _ _ _ _ _ _ _ _ _ _ _ _ _ _ _ _ _ _ _ _ _ _ _ _ _ _ _ _ _ _ _ _ _ _ _ _ _ _ _ _ _ _ _ _ _ _ _ _ _ _ _ _ _ _ _ hV5 ?_
                    intro u4 u17 u18 u19 u20 u21 u127 u128 u129 u130 u131 u132 u133 u134 u135 u136 u137 u138 u139 u140 u141 u142 u143 u144 u145 u146 u147 u148 u149 u150 u151 u152 u153 u154 u155 u156 u157 u158 u159 u160 u161 u162 u163 u164 u165 u166 u167 u168 u169 W' hV6
                    clear hV5
                    go_wp2_with fail
                    go_roundw
                    case rel => exact ⟨i + 1, up, by omega, by go_num, by first | rfl | go_num, hup, Lib.hid hV6.out.tail.tail⟩
                    case measure => simp [intOf]; omega
                  · have hs1 : 0 < since := by have := hps; omega
                    have hs0 : (since == 0) = false := beq_eq_false_iff_ne.2 hs
                    have hs2 : decide (0 < since) = true := decide_eq_true hs1
                    clear hpw hps
                    go_wp2_with fail
                    refine (HF.out _ hV4.out.to2.vq_rq).mono ?_
                    rintro e w7 ⟨rfl, b7⟩
                    have hV5 := Lib.hid ((hV4.out.below b7).alloc #[.int .i64 id, .int .i64 txn, .int .i64 mode, .int .i64 want, .int .i64 since] 48)
                    generalize wr.heap.size = RB at *
                    clear b7 hV4 HF r0 r1 r2 r3 r4 n0 n1 n2 n3 q0 q1 q2 q3 q4 d0 d1 d2 d3
                    obtain ⟨_, x0, x1, x2, x3, x4, _⟩ := hV5.out.b5
                    obtain ⟨_, r0, r1, r2, r3, r4, _⟩ := hV5.out.to1.b5
                    go_wp2_with fail
                    generalize w7.heap.size = XB at *
                    clear x0 x1 x2 x3 x4 r0 r1 r2 r3 r4
                    refine turns_inner n OB NB RB XB g1 c5 m c6 mi d6 i a6 b6 l1 l2 ids w _ id txn mode want since id txn mode want since him hlk hm1 hm2 hp2 (Lib.hid (fun k hk h1 h2 h3 => hturn.out k i hk him h1 (by first | exact h2 | (rw [hq.out]; exact h2) | rw [hq.out]) (by first | exact h3 | (rw [hxv.out]; exact h3) | rw [hxv.out]))) _ (fun _ _ _ _ _ h => h) _ _ _ _ _ _ _ _ _ _ _ _ _ _ _ _ _ _ _ _ _ _ _ _ _ _ _ _ _ _ _ _ _ _ _ _ _ _ _ _ _ _ _ _ _ _ _ _ _ _ _ _ _ _ _ _ _ _ _ _ _ _ _ _ _ _ _ _ _ _ _ _ _ _ _ _ _ _ _ _ _ _ _ _ _ _ _ _ _ _ _ _ _ _ _ _ _ _ _ _ _ _ _ _ _ _ _ _ _ _ _ _ _ _ _ _ _ _ _ _ _ _ _ _ _ _ _ _ _ _ _ _ _ _ _ _ _ _ _ _ _ _ _ _ _ _ _ _ _ _ _ _ _ _ _ _ _ _ _ _ _ _ _ _ _ _ _ _ _ _ _ _ _ _ _ _ _ _ _ _ _ _ _ _ _ _ _ _ _ _ _ _ _ _ _ _ _ _ _ _ _ _ hV5 ?_
                    intro u4 u17 u18 u19 u20 u21 u127 u128 u129 u130 u131 u132 u133 u134 u135 u136 u137 u138 u139 u140 u141 u142 u143 u144 u145 u146 u147 u148 u149 u150 u151 u152 u153 u154 u155 u156 u157 u158 u159 u160 u161 u162 u163 u164 u165 u166 u167 u168 u169 W' hV6
                    clear hV5
                    go_wp2_with fail
                    go_roundw
                    case rel => exact ⟨i + 1, i, by omega, by go_num, by first | rfl | go_num, Lib.hid (fun _ => ⟨i, him, by rw [hq.out]; simp [upB, hm0, hs1, hm], by rw [hxv.out]; exact hs1⟩), Lib.hid hV6.out.tail.tail⟩
                    case measure => simp [intOf]; omega
              · subst hx
                simp only [given] at HF
                have hs0 : (since == 0) = false := beq_eq_false_iff_ne.2 (by omega)
                have hs2 : decide (0 < since) = true := decide_eq_true hs
                by_cases hm : mode = 0
                · subst hm
                  clear hpw hps
                  go_wp2_with fail
                  refine (HF.out _ hV4.out.to2.vq_rq).mono ?_
                  rintro e w7 ⟨rfl, b7⟩
                  have hV5 := Lib.hid ((hV4.out.below b7).alloc #[.int .i64 id, .int .i64 txn, .int .i64 want, .int .i64 want, .int .i64 0] 48)
                  generalize wr.heap.size = RB at *
                  clear b7 hV4 HF r0 r1 r2 r3 r4 n0 n1 n2 n3 q0 q1 q2 q3 q4 d0 d1 d2 d3
                  obtain ⟨_, x0, x1, x2, x3, x4, _⟩ := hV5.out.b5
                  obtain ⟨_, r0, r1, r2, r3, r4, _⟩ := hV5.out.to1.b5
                  go_wp2_with fail
                  generalize w7.heap.size = XB at *
                  clear x0 x1 x2 x3 x4 r0 r1 r2 r3 r4
                  refine turns_inner n OB NB RB XB g1 c5 m c6 mi d6 i a6 b6 l1 l2 ids w _ id txn 0 want since id txn want want 0 him hlk hm1 hm2 hp2 (Lib.hid (fun k hk h1 h2 h3 => hturn.out k i hk him h1 (by first | exact h2 | (rw [hq.out]; exact h2) | rw [hq.out]) (by first | exact h3 | (rw [hxv.out]; exact h3) | rw [hxv.out]))) _ (fun _ _ _ _ _ h => h) _ _ _ _ _ _ _ _ _ _ _ _ _ _ _ _ _ _ _ _ _ _ _ _ _ _ _ _ _ _ _ _ _ _ _ _ _ _ _ _ _ _ _ _ _ _ _ _ _ _ _ _ _ _ _ _ _ _ _ _ _ _ _ _ _ _ _ _ _ _ _ _ _ _ _ _ _ _ _ _ _ _ _ _ _ _ _ _ _ _ _ _ _ _ _ _ _ _ _ _ _ _ _ _ _ _ _ _ _ _ _ _ _ _ _ _ _ _ _ _ _ _ _ _ _ _ _ _ _ _ _ _ _ _ _ _ _ _ _ _ _ _ _ _ _ _ _ _ _ _ _ _ _ _ _ _ _ _ _ _ _ _ _ _ _ _ _ _ _ _ _ _ _ _ _ _ _ _ _ _ _ _ _ _ _ _ _ _ _ _ _ _ _ _ _ _ _ _ _ _ _ _ hV5 ?_
                  intro u4 u17 u18 u19 u20 u21 u127 u128 u129 u130 u131 u132 u133 u134 u135 u136 u137 u138 u139 u140 u141 u142 u143 u144 u145 u146 u147 u148 u149 u150 u151 u152 u153 u154 u155 u156 u157 u158 u159 u160 u161 u162 u163 u164 u165 u166 u167 u168 u169 W' hV6
                  clear hV5
                  go_wp2_with fail
                  go_roundw
                  case rel => exact ⟨i + 1, up, by omega, by go_num, by first | rfl | go_num, hup, Lib.hid hV6.out.tail.tail⟩
                  case measure => simp [intOf]; omega
                · have hm0 : (mode == 0) = false := beq_eq_false_iff_ne.2 hm
                  have hm1' : (mode != 0) = true := by simpa using hm
                  clear hpw hps
                  go_wp2_with fail
                  refine (HF.out _ hV4.out.to2.vq_rq).mono ?_
                  rintro e w7 ⟨rfl, b7⟩
                  have hV5 := Lib.hid ((hV4.out.below b7).alloc #[.int .i64 id, .int .i64 txn, .int .i64 want, .int .i64 want, .int .i64 0] 48)
                  generalize wr.heap.size = RB at *
                  clear b7 hV4 HF r0 r1 r2 r3 r4 n0 n1 n2 n3 q0 q1 q2 q3 q4 d0 d1 d2 d3
                  obtain ⟨_, x0, x1, x2, x3, x4, _⟩ := hV5.out.b5
                  obtain ⟨_, r0, r1, r2, r3, r4, _⟩ := hV5.out.to1.b5
                  go_wp2_with fail
                  generalize w7.heap.size = XB at *
                  clear x0 x1 x2 x3 x4 r0 r1 r2 r3 r4
                  refine turns_inner n OB NB RB XB g1 c5 m c6 mi d6 i a6 b6 l1 l2 ids w _ id txn mode want since id txn want want 0 him hlk hm1 hm2 hp2 (Lib.hid (fun k hk h1 h2 h3 => hturn.out k i hk him h1 (by first | exact h2 | (rw [hq.out]; exact h2) | rw [hq.out]) (by first | exact h3 | (rw [hxv.out]; exact h3) | rw [hxv.out]))) _ (fun _ _ _ _ _ h => h) _ _ _ _ _ _ _ _ _ _ _ _ _ _ _ _ _ _ _ _ _ _ _ _ _ _ _ _ _ _ _ _ _ _ _ _ _ _ _ _ _ _ _ _ _ _ _ _ _ _ _ _ _ _ _ _ _ _ _ _ _ _ _ _ _ _ _ _ _ _ _ _ _ _ _ _ _ _ _ _ _ _ _ _ _ _ _ _ _ _ _ _ _ _ _ _ _ _ _ _ _ _ _ _ _ _ _ _ _ _ _ _ _ _ _ _ _ _ _ _ _ _ _ _ _ _ _ _ _ _ _ _ _ _ _ _ _ _ _ _ _ _ _ _ _ _ _ _ _ _ _ _ _ _ _ _ _ _ _ _ _ _ _ _ _ _ _ _ _ _ _ _ _ _ _ _ _ _ _ _ _ _ _ _ _ _ _ _ _ _ _ _ _ _ _ _ _ _ _ _ _ _ hV5 ?_
                  intro u4 u17 u18 u19 u20 u21 u127 u128 u129 u130 u131 u132 u133 u134 u135 u136 u137 u138 u139 u140 u141 u142 u143 u144 u145 u146 u147 u148 u149 u150 u151 u152 u153 u154 u155 u156 u157 u158 u159 u160 u161 u162 u163 u164 u165 u166 u167 u168 u169 W' hV6
                  clear hV5
                  go_wp2_with fail
                  go_roundw
                  case rel => exact ⟨i + 1, up, by omega, by go_num, by first | rfl | go_num, hup, Lib.hid hV6.out.tail.tail⟩
                  case measure => simp [intOf]; omega
            · have him2 : i = m := by omega
              subst him2
              obtain ⟨e0, d0, d1, d2, d3, _⟩ := hV.out.to3.b4
              go_wp2_with fail
              clear e0 d0 d1 d2 d3
              go_loopw [22] (fun x wr => ∃ s : Nat, s ≤ mi ∧ x = .int .i64 s ∧ Hid (Sep wr [blk NB 26 #[.int .i64 0, .int .i64 (-1), .slice a6 i c6, .int .i64 n], vq (.slice a6 i c6) l2, vec 3 1 (.slice b6 mi d6) mi (ids.map (Value.int .i64)), blk OB 26 #[.int .i64 0, .int .i64 (-1), .slice a5 i c5, .int .i64 n], vq (.slice a5 i c5) l1, old w])) (fun x _ => mi - (intOf x).toNat)
              case atStart => exact ⟨0, Nat.zero_le _, rfl, hV⟩
              case round =>
                clear hV
                obtain ⟨s, hs, rfl, hV⟩ := hrel
                by_cases hsm : s < mi
                · obtain ⟨gi, rfl⟩ : ∃ gi, b6 = some ⟨gi, 0, none⟩ := by
                    rcases hV.out.to2.gvec.2 with ⟨_, h1⟩ | ⟨g, cap, cur, hv, _⟩
                    · omega
                    · injection hv with e1 _ _
                      exact ⟨g, e1⟩
                  obtain ⟨idv, hidv⟩ : ∃ y, ids[s]? = some y := ⟨ids[s]'(by rw [hmi.out]; exact hsm), List.getElem?_eq_getElem _⟩
                  obtain ⟨j, hj, hjid, hjs, hjm⟩ := hwho.out idv (List.mem_of_getElem? hidv)
                  have hcell : Hid ((ids.map (Value.int .i64))[s]? = some (.int .i64 idv)) := Lib.hid (by rw [List.getElem?_map, hidv]; rfl)
                  have HF := Lib.hid (fun W h => find_some 0 (-1) n (.slice a5 i c5) l1 idv W h (by rw [hm1.out]; omega) j (by rw [← hjid]; exact hp1.out j hj) (by rw [hm1.out]; exact hj))
                  generalize l1.getD j default = q at *
                  obtain ⟨id, txn, mode, want, since⟩ := q
                  simp only at hjs hjm
                  replace hjm := Lib.hid hjm
                  unfold hval Rq.val at HF
                  have i5 : (0 : Int) ≤ (s : Int) := by omega
                  have i6 : (s : Int) < (mi : Int) := by omega
                  have hs0 : (since == 0) = false := beq_eq_false_iff_ne.2 (by omega)
                  clear hjid hidv
                  go_wp2_with fail
                  replace hV := Lib.hid hV.out.drew
                  have hS := Lib.hid (show (fun W : World => Sep W [blk NB 26 #[.int .i64 0, .int .i64 (-1), .slice a6 i c6, .int .i64 n], vq (.slice a6 i c6) l2, vec 3 1 (.slice (some ⟨gi, 0, none⟩) mi d6) mi (ids.map (Value.int .i64)), blk OB 26 #[.int .i64 0, .int .i64 (-1), .slice a5 i c5, .int .i64 n], vq (.slice a5 i c5) l1, old w]) _ from hV.out)
                  refine held_begin (fun W : World => Sep W [blk NB 26 #[.int .i64 0, .int .i64 (-1), .slice a6 i c6, .int .i64 n], vq (.slice a6 i c6) l2, vec 3 1 (.slice (some ⟨gi, 0, none⟩) mi d6) mi (ids.map (Value.int .i64)), blk OB 26 #[.int .i64 0, .int .i64 (-1), .slice a5 i c5, .int .i64 n], vq (.slice a5 i c5) l1, old w]) (by kernel_rfl) hS.out ?_
                  change wpAnyH _ _ _ _ _ 12 _ _ (World.drew _)
                  generalize World.drew _ = wd at *
                  refine held_take 0 ?w1 rfl (by kernel_rfl) (by kernel_rfl) (by kernel_rfl) (fun _ _ _ _ _ h => h) (by kernel_rfl) hS.out ?x1 ?z1
                  case x1 => intro W hW; change Sep W _ at hW; obtain ⟨_, d0, d1, d2, d3, _⟩ := hW.to3.b4; have y0 := (hW.to2.vec_cell hcell.out).1; replace hW := Lib.hid hW; go_simp; try rfl
                  case z1 =>
                  simp only [Act.put, List.setIfInBounds_toArray, List.set_cons_succ, List.set_cons_zero, List.getElem_toArray, List.getElem_cons_zero, List.getElem_cons_succ]
                  refine held_take 1 ?w2 rfl (by kernel_rfl) (by kernel_rfl) (by kernel_rfl) (fun _ _ _ _ _ h => h) (by kernel_rfl) hS.out ?x2 ?z2
                  case x2 => intro W hW; skip; replace hW := Lib.hid hW; go_simp; try rfl
                  case z2 =>
                  simp only [Act.put, List.setIfInBounds_toArray, List.set_cons_succ, List.set_cons_zero, List.getElem_toArray, List.getElem_cons_zero, List.getElem_cons_succ]
                  refine held_take 2 ?w3 rfl (by kernel_rfl) (by kernel_rfl) (by kernel_rfl) (fun _ _ _ _ _ h => h) (by kernel_rfl) hS.out ?x3 ?z3
                  case x3 => intro W hW; skip; replace hW := Lib.hid hW; go_simp; try rfl
                  case z3 =>
                  simp only [Act.put, List.setIfInBounds_toArray, List.set_cons_succ, List.set_cons_zero, List.getElem_toArray, List.getElem_cons_zero, List.getElem_cons_succ]
                  refine held_take 3 ?w4 rfl (by kernel_rfl) (by kernel_rfl) (by kernel_rfl) (fun _ _ _ _ _ h => h) (by kernel_rfl) hS.out ?x4 ?z4
                  case x4 => intro W hW; skip; replace hW := Lib.hid hW; go_simp; try rfl
                  case z4 =>
                  simp only [Act.put, List.setIfInBounds_toArray, List.set_cons_succ, List.set_cons_zero, List.getElem_toArray, List.getElem_cons_zero, List.getElem_cons_succ]
                  refine held_take 4 ?w5 rfl (by kernel_rfl) (by kernel_rfl) (by kernel_rfl) (fun _ _ _ _ _ h => h) (by kernel_rfl) hS.out ?x5 ?z5
                  case x5 => intro W hW; change Sep W _ at hW; obtain ⟨_, d0, d1, d2, d3, _⟩ := hW.to3.b4; have y0 := (hW.to2.vec_cell hcell.out).1; replace hW := Lib.hid hW; go_simp; try rfl
                  case z5 =>
                  simp only [Act.put, List.setIfInBounds_toArray, List.set_cons_succ, List.set_cons_zero, List.getElem_toArray, List.getElem_cons_zero, List.getElem_cons_succ]
                  refine held_two 5 9 (by kernel_rfl) rfl rfl (by kernel_rfl) (by kernel_rfl) (fun K hK => ?_) (fun K hK => ?_)
                  · go_simp
                    refine (HF.out _ (hV.out.to4).vq_rq).mono ?_
                    rintro e w9 ⟨rfl, b9⟩
                    replace hV := Lib.hid (hV.out.below b9)
                    clear b9
                    have hS := Lib.hid (show (fun W : World => Sep W [blk NB 26 #[.int .i64 0, .int .i64 (-1), .slice a6 i c6, .int .i64 n], vq (.slice a6 i c6) l2, vec 3 1 (.slice (some ⟨gi, 0, none⟩) mi d6) mi (ids.map (Value.int .i64)), blk OB 26 #[.int .i64 0, .int .i64 (-1), .slice a5 i c5, .int .i64 n], vq (.slice a5 i c5) l1, old w]) _ from hV.out)
                    refine hK.out _ _ hS.out ?_
                    clear hK K
                    try simp only [Act.put, List.setIfInBounds_toArray, List.set_cons_succ, List.set_cons_zero, List.getElem_toArray, List.getElem_cons_zero, List.getElem_cons_succ]
                    refine held_take 6 ?w6 rfl (by kernel_rfl) (by kernel_rfl) (by kernel_rfl) (fun _ _ _ _ _ h => h) (by kernel_rfl) hS.out ?x6 ?z6
                    case x6 => intro W hW; skip; replace hW := Lib.hid hW; go_simp; try rfl
                    case z6 =>
                    simp only [Act.put, List.setIfInBounds_toArray, List.set_cons_succ, List.set_cons_zero, List.getElem_toArray, List.getElem_cons_zero, List.getElem_cons_succ]
                    refine held_take 7 ?w7 rfl (by kernel_rfl) (by kernel_rfl) (by kernel_rfl) (fun _ _ _ _ _ h => h) (by kernel_rfl) hS.out ?x7 ?z7
                    case x7 => intro W hW; skip; replace hW := Lib.hid hW; go_simp; try rfl
                    case z7 =>
                    simp only [Act.put, List.setIfInBounds_toArray, List.set_cons_succ, List.set_cons_zero, List.getElem_toArray, List.getElem_cons_zero, List.getElem_cons_succ]
                    refine held_take 8 ?w8 rfl (by kernel_rfl) (by kernel_rfl) (by kernel_rfl) (fun _ _ _ _ _ h => h) (by kernel_rfl) hS.out ?x8 ?z8
                    case x8 => intro W hW; skip; replace hW := Lib.hid hW; go_simp; try rfl
                    case z8 =>
                    simp only [Act.put, List.setIfInBounds_toArray, List.set_cons_succ, List.set_cons_zero, List.getElem_toArray, List.getElem_cons_zero, List.getElem_cons_succ]
                    refine held_one 9 (by kernel_rfl) rfl (by kernel_rfl) (fun K hK => ?_)
                    go_simp
                    replace hV := Lib.hid (hV.out.alloc #[.int .i64 0, .int .i64 0, .int .i64 0, .int .i64 0, .int .i64 0] 48)
                    have hS := Lib.hid (show (fun W : World => Sep W [blk NB 26 #[.int .i64 0, .int .i64 (-1), .slice a6 i c6, .int .i64 n], vq (.slice a6 i c6) l2, vec 3 1 (.slice (some ⟨gi, 0, none⟩) mi d6) mi (ids.map (Value.int .i64)), blk OB 26 #[.int .i64 0, .int .i64 (-1), .slice a5 i c5, .int .i64 n], vq (.slice a5 i c5) l1, old w]) _ from hV.out.tail)
                    refine hK.out _ _ hS.out ?_
                    clear hK K
                    try simp only [Act.put, List.setIfInBounds_toArray, List.set_cons_succ, List.set_cons_zero, List.getElem_toArray, List.getElem_cons_zero, List.getElem_cons_succ]
                    generalize w9.heap.size = ZB at *
                    generalize w9.alloc (.cells #[.int .i64 0, .int .i64 0, .int .i64 0, .int .i64 0, .int .i64 0] 48) = we at *
                    refine held_one 10 (by kernel_rfl) rfl (by kernel_rfl) (fun K hK => ?_)
                    obtain ⟨_, s0, s1, s2, s3, s4, f0, f1, f2, f3, f4⟩ := hV.out.b5
                    go_simp
                    replace hV := Lib.hid (((((hV.out.set 0 (.int .i64 id)).set 1 (.int .i64 txn)).set 2 (.int .i64 mode)).set 3 (.int .i64 want)).set 4 (.int .i64 since))
                    have hS := Lib.hid (show (fun W : World => Sep W [blk NB 26 #[.int .i64 0, .int .i64 (-1), .slice a6 i c6, .int .i64 n], vq (.slice a6 i c6) l2, vec 3 1 (.slice (some ⟨gi, 0, none⟩) mi d6) mi (ids.map (Value.int .i64)), blk OB 26 #[.int .i64 0, .int .i64 (-1), .slice a5 i c5, .int .i64 n], vq (.slice a5 i c5) l1, old w]) _ from hV.out.tail)
                    refine hK.out _ _ hS.out ?_
                    clear hK K s0 s1 s2 s3 s4 f0 f1 f2 f3 f4
                    try simp only [Act.put, List.setIfInBounds_toArray, List.set_cons_succ, List.set_cons_zero, List.getElem_toArray, List.getElem_cons_zero, List.getElem_cons_succ]
                    refine held_take 11 ?w9 rfl (by kernel_rfl) (by kernel_rfl) (by kernel_rfl) (fun _ _ _ _ _ h => h) (by kernel_rfl) hS.out ?x9 ?z9
                    case x9 => intro W hW; skip; replace hW := Lib.hid hW; go_simp; try rfl
                    case z9 =>
                    simp only [Act.put, List.setIfInBounds_toArray, List.set_cons_succ, List.set_cons_zero, List.getElem_toArray, List.getElem_cons_zero, List.getElem_cons_succ]
                    refine wpAnyH_done (by kernel_rfl) ?_ _
                    clear hS HF
                    obtain ⟨_, x0, x1, x2, x3, x4, _⟩ := hV.out.b5
                    by_cases hu0 : 0 ≤ up
                    · have h1 : decide (0 ≤ up) = true := decide_eq_true hu0
                      have hm : mode ≠ 0 := fun hm => by
                        obtain ⟨j2, h3, h4, h5⟩ := hup.out hu0
                        have := hjm.out hm j2 h3 h4
                        omega
                      have hm0 : (mode == 0) = false := beq_eq_false_iff_ne.2 hm
                      go_wp2_with fail
                      go_roundw
                      case rel => exact ⟨s + 1, by omega, by go_num, Lib.hid hV.out.tail⟩
                      case measure => simp [intOf]; omega
                    · have h1 : decide (0 ≤ up) = false := decide_eq_false hu0
                      go_wp2_with fail
                      go_roundw
                      case rel => exact ⟨s + 1, by omega, by go_num, Lib.hid hV.out.tail⟩
                      case measure => simp [intOf]; omega
                  · go_simp
                    replace hV := Lib.hid (hV.out.alloc #[.int .i64 0, .int .i64 0, .int .i64 0, .int .i64 0, .int .i64 0] 48)
                    have hS := Lib.hid (show (fun W : World => Sep W [blk NB 26 #[.int .i64 0, .int .i64 (-1), .slice a6 i c6, .int .i64 n], vq (.slice a6 i c6) l2, vec 3 1 (.slice (some ⟨gi, 0, none⟩) mi d6) mi (ids.map (Value.int .i64)), blk OB 26 #[.int .i64 0, .int .i64 (-1), .slice a5 i c5, .int .i64 n], vq (.slice a5 i c5) l1, old w]) _ from hV.out.tail)
                    refine hK.out _ _ hS.out ?_
                    clear hK K
                    try simp only [Act.put, List.setIfInBounds_toArray, List.set_cons_succ, List.set_cons_zero, List.getElem_toArray, List.getElem_cons_zero, List.getElem_cons_succ]
                    generalize wd.heap.size = ZB at *
                    generalize wd.alloc (.cells #[.int .i64 0, .int .i64 0, .int .i64 0, .int .i64 0, .int .i64 0] 48) = we at *
                    refine held_one 5 (by kernel_rfl) rfl (by kernel_rfl) (fun K hK => ?_)
                    go_simp
                    refine (HF.out _ (hV.out.to5).vq_rq).mono ?_
                    rintro e w9 ⟨rfl, b9⟩
                    replace hV := Lib.hid (hV.out.below b9)
                    clear b9
                    have hS := Lib.hid (show (fun W : World => Sep W [blk NB 26 #[.int .i64 0, .int .i64 (-1), .slice a6 i c6, .int .i64 n], vq (.slice a6 i c6) l2, vec 3 1 (.slice (some ⟨gi, 0, none⟩) mi d6) mi (ids.map (Value.int .i64)), blk OB 26 #[.int .i64 0, .int .i64 (-1), .slice a5 i c5, .int .i64 n], vq (.slice a5 i c5) l1, old w]) _ from hV.out.tail)
                    refine hK.out _ _ hS.out ?_
                    clear hK K
                    try simp only [Act.put, List.setIfInBounds_toArray, List.set_cons_succ, List.set_cons_zero, List.getElem_toArray, List.getElem_cons_zero, List.getElem_cons_succ]
                    refine held_take 6 ?w10 rfl (by kernel_rfl) (by kernel_rfl) (by kernel_rfl) (fun _ _ _ _ _ h => h) (by kernel_rfl) hS.out ?x10 ?z10
                    case x10 => intro W hW; skip; replace hW := Lib.hid hW; go_simp; try rfl
                    case z10 =>
                    simp only [Act.put, List.setIfInBounds_toArray, List.set_cons_succ, List.set_cons_zero, List.getElem_toArray, List.getElem_cons_zero, List.getElem_cons_succ]
                    refine held_take 7 ?w11 rfl (by kernel_rfl) (by kernel_rfl) (by kernel_rfl) (fun _ _ _ _ _ h => h) (by kernel_rfl) hS.out ?x11 ?z11
                    case x11 => intro W hW; skip; replace hW := Lib.hid hW; go_simp; try rfl
                    case z11 =>
                    simp only [Act.put, List.setIfInBounds_toArray, List.set_cons_succ, List.set_cons_zero, List.getElem_toArray, List.getElem_cons_zero, List.getElem_cons_succ]
                    refine held_take 8 ?w12 rfl (by kernel_rfl) (by kernel_rfl) (by kernel_rfl) (fun _ _ _ _ _ h => h) (by kernel_rfl) hS.out ?x12 ?z12
                    case x12 => intro W hW; skip; replace hW := Lib.hid hW; go_simp; try rfl
                    case z12 =>
                    simp only [Act.put, List.setIfInBounds_toArray, List.set_cons_succ, List.set_cons_zero, List.getElem_toArray, List.getElem_cons_zero, List.getElem_cons_succ]
                    refine held_one 10 (by kernel_rfl) rfl (by kernel_rfl) (fun K hK => ?_)
                    obtain ⟨_, s0, s1, s2, s3, s4, f0, f1, f2, f3, f4⟩ := hV.out.b5
                    go_simp
                    replace hV := Lib.hid (((((hV.out.set 0 (.int .i64 id)).set 1 (.int .i64 txn)).set 2 (.int .i64 mode)).set 3 (.int .i64 want)).set 4 (.int .i64 since))
                    have hS := Lib.hid (show (fun W : World => Sep W [blk NB 26 #[.int .i64 0, .int .i64 (-1), .slice a6 i c6, .int .i64 n], vq (.slice a6 i c6) l2, vec 3 1 (.slice (some ⟨gi, 0, none⟩) mi d6) mi (ids.map (Value.int .i64)), blk OB 26 #[.int .i64 0, .int .i64 (-1), .slice a5 i c5, .int .i64 n], vq (.slice a5 i c5) l1, old w]) _ from hV.out.tail)
                    refine hK.out _ _ hS.out ?_
                    clear hK K s0 s1 s2 s3 s4 f0 f1 f2 f3 f4
                    try simp only [Act.put, List.setIfInBounds_toArray, List.set_cons_succ, List.set_cons_zero, List.getElem_toArray, List.getElem_cons_zero, List.getElem_cons_succ]
                    refine held_take 11 ?w13 rfl (by kernel_rfl) (by kernel_rfl) (by kernel_rfl) (fun _ _ _ _ _ h => h) (by kernel_rfl) hS.out ?x13 ?z13
                    case x13 => intro W hW; skip; replace hW := Lib.hid hW; go_simp; try rfl
                    case z13 =>
                    simp only [Act.put, List.setIfInBounds_toArray, List.set_cons_succ, List.set_cons_zero, List.getElem_toArray, List.getElem_cons_zero, List.getElem_cons_succ]
                    refine wpAnyH_done (by kernel_rfl) ?_ _
                    clear hS HF
                    obtain ⟨_, x0, x1, x2, x3, x4, _⟩ := hV.out.b5
                    by_cases hu0 : 0 ≤ up
                    · have h1 : decide (0 ≤ up) = true := decide_eq_true hu0
                      have hm : mode ≠ 0 := fun hm => by
                        obtain ⟨j2, h3, h4, h5⟩ := hup.out hu0
                        have := hjm.out hm j2 h3 h4
                        omega
                      have hm0 : (mode == 0) = false := beq_eq_false_iff_ne.2 hm
                      go_wp2_with fail
                      go_roundw
                      case rel => exact ⟨s + 1, by omega, by go_num, Lib.hid hV.out.tail⟩
                      case measure => simp [intOf]; omega
                    · have h1 : decide (0 ≤ up) = false := decide_eq_false hu0
                      go_wp2_with fail
                      go_roundw
                      case rel => exact ⟨s + 1, by omega, by go_num, Lib.hid hV.out.tail⟩
                      case measure => simp [intOf]; omega
                · have hs2 : s = mi := by omega
                  subst hs2
                  obtain ⟨_, d0, d1, d2, d3, _⟩ := hV.out.to3.b4
                  obtain ⟨_, n0, n1, n2, n3, _⟩ := hV.out.b4
                  go_wp2_with fail
                  go_ret
                  exact ⟨by simp, (hV.out.bring 5 rfl).gold⟩
  · have i40 : (len : Int) > 40 := by omega
    go_enter Try.func4, Try.ntmps4
    go_wp2_with fail
    refine (lives_any _).mono ?_
    rintro e w1 ⟨rfl, b1⟩
    replace b1 := Lib.hid b1
    go_wp2_with fail
    go_ret
    exact ⟨rfl, b1.out⟩
end Go.Proofs.Ytmacpjnkmkaloaa
