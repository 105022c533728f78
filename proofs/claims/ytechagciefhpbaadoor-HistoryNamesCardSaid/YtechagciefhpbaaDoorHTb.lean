/-
  The text of an event. Condition: RdH.
-/
import Derived.Test.YtechagciefhpbaaDoorHTa
import Derived.Test.YtechagciefhpbaaDoorHx
namespace Go.Proofs.YtechagciefhpbaaDoor
set_option linter.unusedSimpArgs false
set_option linter.unusedVariables false
set_option linter.unnecessarySimpa false
open Go.RowKit
def wds1 : List ByteArray := [⟨#[97, 99, 113, 117, 105, 114, 101]⟩, ⟨#[114, 101, 108, 101, 97, 115, 101]⟩, ⟨#[114, 101, 108, 101, 97, 115, 101, 97, 108, 108]⟩, ⟨#[112, 97, 115, 115]⟩]
def wds2 : List ByteArray := [⟨#[103, 114, 97, 110, 116, 101, 100]⟩, ⟨#[116, 105, 109, 101, 111, 117, 116]⟩, ⟨#[99, 97, 110, 99, 101, 108, 108, 101, 100]⟩, ⟨#[100, 101, 97, 100, 108, 111, 99, 107]⟩, ⟨#[102, 117, 108, 108]⟩, ⟨#[109, 105, 115, 117, 115, 101]⟩]
theorem f1 : (Lib.fields (⟨#[97, 99, 113, 117, 105, 114, 101, 32, 114, 101, 108, 101, 97, 115, 101, 32, 114, 101, 108, 101, 97, 115, 101, 97, 108, 108, 32, 112, 97, 115, 115]⟩ : ByteArray).data.toList).map (fun l => (⟨l.toArray⟩ : ByteArray)) = wds1 := by decide +kernel
theorem f2 : (Lib.fields (⟨#[103, 114, 97, 110, 116, 101, 100, 32, 116, 105, 109, 101, 111, 117, 116, 32, 99, 97, 110, 99, 101, 108, 108, 101, 100, 32, 100, 101, 97, 100, 108, 111, 99, 107, 32, 102, 117, 108, 108, 32, 109, 105, 115, 117, 115, 101]⟩ : ByteArray).data.toList).map (fun l => (⟨l.toArray⟩ : ByteArray)) = wds2 := by decide +kernel
theorem asc_of {s : ByteArray} (h : s.data.toList.all (fun b => decide (b.toNat < 128)) = true) : ∀ (j : Nat) b, s.data.toList[j]? = some b → b.toNat < 128 := fun j b hb => of_decide_eq_true (List.all_eq_true.1 h b (List.mem_of_getElem? hb))
theorem word1_any (n : Int) (w : World) (hR : RdH w) : Calls Tryd.prog 26 #[.string ⟨#[97, 99, 113, 117, 105, 114, 101, 32, 114, 101, 108, 101, 97, 115, 101, 32, 114, 101, 108, 101, 97, 115, 101, 97, 108, 108, 32, 112, 97, 115, 115]⟩, .int .i64 n] w fun e w' => e = .returned (.string (wordB wds1 n)) ∧ Below w.heap.size w w' :=
  word_any _ wds1 n w (by decide) (asc_of (by decide +kernel)) f1 (by decide) hR
theorem word2_any (n : Int) (w : World) (hR : RdH w) : Calls Tryd.prog 26 #[.string ⟨#[103, 114, 97, 110, 116, 101, 100, 32, 116, 105, 109, 101, 111, 117, 116, 32, 99, 97, 110, 99, 101, 108, 108, 101, 100, 32, 100, 101, 97, 100, 108, 111, 99, 107, 32, 102, 117, 108, 108, 32, 109, 105, 115, 117, 115, 101]⟩, .int .i64 n] w fun e w' => e = .returned (.string (wordB wds2 n)) ∧ Below w.heap.size w w' :=
  word_any _ wds2 n w (by decide) (asc_of (by decide +kernel)) f2 (by decide) hR
theorem itB_size {n : Int} (h : okI n) : (itB n).size ≤ 2 := by
  unfold itB
  split
  · decide
  · exact dgB_size _
def p1 (e : Ev) : ByteArray := ⟨#[116]⟩ ++ itB e.thread
def p2 (e : Ev) : ByteArray := ⟨#[99]⟩ ++ itB e.call
def p4 (e : Ev) : ByteArray := ⟨#[120]⟩ ++ itB e.act.txn
def partsE (e : Ev) : List ByteArray := if e.invoke then [p1 e, p2 e, wordB wds1 e.act.kind, p4 e, txt e.act.t e.act.r, mdL.getD e.act.mode.toNat ⟨#[]⟩] else [p1 e, p2 e, wordB wds2 e.act.code]
def joinE (e : Ev) : List UInt8 := Lib.join ((partsE e).map (·.data.toList)) [32]
def txE (e : Ev) : ByteArray := ⟨(joinE e).toArray⟩
theorem info_str : (Tryd.prog.info? 9).map (fun i => (i.zero, i.size, i.bytes)) = some (some (.string ByteArray.empty), 1, 16) := by kernel_rfl
theorem src_strs {w : World} {g n : Nat} {t : TypeId} {xs : List Value} {rs : List Res} (h : Sep w (blk g t xs.toArray :: rs)) (hn : xs.length = n) : SrcA w 1 (.slice (some ⟨g, 0, none⟩) n n) n xs :=
  .inr ⟨_, _, rfl, by rw [hn, Nat.mul_one], fun j u hu => by rw [Addr.add_lit, Nat.zero_add, h.gblk.cell j]; simpa using hu⟩
theorem join_parts {w : World} {a : Option Addr} {n c : Nat} {xs : List ByteArray} {rs : List Res} (h : Sep w (vec 9 1 (.slice a n c) n (xs.map Value.string) :: rs)) (hn : xs.length = n) (h0 : 0 < n) : ∃ g, a = some ⟨g, 0, none⟩ ∧ g < w.heap.size ∧ n ≤ c ∧ ∀ (j : Nat) x, xs[j]? = some x → w.cell? ⟨g, 0 + j, none⟩ = some (.string x) := by
  have k := h.gvec
  rcases k.2 with ⟨_, rfl⟩ | ⟨g, cap, cur, hv, _, hg, hnc, hcm, hcs, ht⟩
  · omega
  · injection hv with e1 e2 e3
    subst e1 e3
    refine ⟨g, rfl, (Array.getElem?_eq_some_iff.1 hg).1, hnc, fun j x hx => ?_⟩
    have := k.cells (g := g) rfl j (.string x) (by simp [hx])
    rwa [Addr.add_lit] at this
set_option maxHeartbeats 4000000 in
set_option maxRecDepth 100000 in
theorem textE_any (e : Ev) (w : World) (hR : RdH w) (ht : okI e.thread) (hc : okI e.call) (hx : okI e.act.txn) (hm0 : 0 ≤ e.act.mode) (hm6 : e.act.mode ≤ 6) (hJ : (joinE e).length ≤ 1000) :
    Calls Tryd.prog 15 #[e.val] w fun r w' => r = .returned (.string (txE e)) ∧ Below w.heap.size w w' := by
  obtain ⟨call, thread, inv, ⟨kind, txn, t, r, mode, code⟩⟩ := e
  unfold Ev.val
  simp only at *
  replace hR := Lib.hid hR
  replace ht := Lib.hid ht
  replace hc := Lib.hid hc
  replace hx := Lib.hid hx
  replace hJ := Lib.hid hJ
  obtain ⟨i0, hi0, hz0, hz1, hz2⟩ := info_parts info_str
  have hS := Lib.hid ((Sep.start w).alloc #[.int .i64 call, .int .i64 thread, .bool inv, .int .i64 kind, .int .i64 txn, .int .i64 t, .int .i64 r, .int .i64 mode, .int .i64 code] 31)
  have gz1 : ¬ 9223372036854775807 < 1 + (itB thread).size := by have := itB_size ht.out; omega
  have gz2 : ¬ 9223372036854775807 < 1 + (itB call).size := by have := itB_size hc.out; omega
  have gz3 : ¬ 9223372036854775807 < 1 + (itB txn).size := by have := itB_size hx.out; omega
  go_enter Tryd.func15, Tryd.ntmps15
  go_wp2_with fail
  have hS := Lib.hid (show (fun W : World => Sep W (blk w.heap.size 31 #[.int .i64 call, .int .i64 thread, .bool inv, .int .i64 kind, .int .i64 txn, .int .i64 t, .int .i64 r, .int .i64 mode, .int .i64 code] :: old w :: [])) _ from hS.out.drew)
  refine hl_begin (fun W : World => Sep W (blk w.heap.size 31 #[.int .i64 call, .int .i64 thread, .bool inv, .int .i64 kind, .int .i64 txn, .int .i64 t, .int .i64 r, .int .i64 mode, .int .i64 code] :: old w :: [])) [(0, true), (1, true), (4, true), (5, true), (2, false), (3, true), (6, false), (7, true), (8, false), (9, true)] (by kernel_rfl) (by kernel_rfl) (by kernel_rfl) rfl (fun _ _ _ _ _ h => h) hS.out ?_
  change HL _ _ _ _ _ _ (World.drew _)
  generalize World.drew _ = wd at *
  refine hl_take ?v1 rfl (by kernel_rfl) ?y1 ?z1
  case y1 => intro W hW; skip; replace hW := Lib.hid hW; go_simp; try rfl
  case z1 =>
  simp only [Act.put, List.setIfInBounds_toArray, List.set_cons_succ, List.set_cons_zero, List.getElem_toArray, List.getElem_cons_zero, List.getElem_cons_succ]
  refine hl_take ?v2 rfl (by kernel_rfl) ?y2 ?z2
  case y2 => intro W hW; obtain ⟨_, e0, e1, e2, e3, e4, e5, e6, e7, e8, _⟩ := (show Sep _ _ from hW).b9; replace hW := Lib.hid hW; go_simp; try rfl
  case z2 =>
  simp only [Act.put, List.setIfInBounds_toArray, List.set_cons_succ, List.set_cons_zero, List.getElem_toArray, List.getElem_cons_zero, List.getElem_cons_succ]
  refine hl_take ?v3 rfl (by kernel_rfl) ?y3 ?z3
  case y3 => intro W hW; skip; replace hW := Lib.hid hW; go_simp; try rfl
  case z3 =>
  simp only [Act.put, List.setIfInBounds_toArray, List.set_cons_succ, List.set_cons_zero, List.getElem_toArray, List.getElem_cons_zero, List.getElem_cons_succ]
  refine hl_take ?v4 rfl (by kernel_rfl) ?y4 ?z4
  case y4 => intro W hW; obtain ⟨_, e0, e1, e2, e3, e4, e5, e6, e7, e8, _⟩ := (show Sep _ _ from hW).b9; replace hW := Lib.hid hW; go_simp; try rfl
  case z4 =>
  simp only [Act.put, List.setIfInBounds_toArray, List.set_cons_succ, List.set_cons_zero, List.getElem_toArray, List.getElem_cons_zero, List.getElem_cons_succ]
  refine hl_one rfl (by kernel_rfl) (fun K hK => ?_)
  go_simp
  go_at_call 25
  refine (itoaE_any _ (by first | exact ht.out | exact hc.out) _ (hR.out.below hS.out.tail.gold)).mono ?_
  rintro e w1 ⟨rfl, q⟩
  replace hS := Lib.hid (hS.out.below q)
  clear q
  refine hK.out _ _ hS.out ?_
  clear hK K
  try simp only [Act.put, List.setIfInBounds_toArray, List.set_cons_succ, List.set_cons_zero, List.getElem_toArray, List.getElem_cons_zero, List.getElem_cons_succ]
  refine hl_take ?v5 rfl (by kernel_rfl) ?y5 ?z5
  case y5 => intro W hW; skip; replace hW := Lib.hid hW; go_simp; try rfl
  case z5 =>
  simp only [Act.put, List.setIfInBounds_toArray, List.set_cons_succ, List.set_cons_zero, List.getElem_toArray, List.getElem_cons_zero, List.getElem_cons_succ]
  refine hl_one rfl (by kernel_rfl) (fun K hK => ?_)
  go_simp
  go_at_call 25
  refine (itoaE_any _ (by first | exact ht.out | exact hc.out) _ (hR.out.below hS.out.tail.gold)).mono ?_
  rintro e w1 ⟨rfl, q⟩
  replace hS := Lib.hid (hS.out.below q)
  clear q
  refine hK.out _ _ hS.out ?_
  clear hK K
  try simp only [Act.put, List.setIfInBounds_toArray, List.set_cons_succ, List.set_cons_zero, List.getElem_toArray, List.getElem_cons_zero, List.getElem_cons_succ]
  refine hl_take ?v6 rfl (by kernel_rfl) ?y6 ?z6
  case y6 => intro W hW; skip; replace hW := Lib.hid hW; go_simp; try rfl
  case z6 =>
  simp only [Act.put, List.setIfInBounds_toArray, List.set_cons_succ, List.set_cons_zero, List.getElem_toArray, List.getElem_cons_zero, List.getElem_cons_succ]
  refine hl_one rfl (by kernel_rfl) (fun K hK => ?_)
  go_simp
  have hP := Lib.hid (hS.out.alloc #[.string (⟨#[116]⟩ ++ itB thread), .string (⟨#[99]⟩ ++ itB call)] 9)
  refine hK.out _ _ hP.out.tail ?_
  clear hK K
  try simp only [Act.put, List.setIfInBounds_toArray, List.set_cons_succ, List.set_cons_zero, List.getElem_toArray, List.getElem_cons_zero, List.getElem_cons_succ]
  refine hl_take ?v7 rfl (by kernel_rfl) ?y7 ?z7
  case y7 => intro W hW; skip; replace hW := Lib.hid hW; go_simp; try rfl
  case z7 =>
  simp only [Act.put, List.setIfInBounds_toArray, List.set_cons_succ, List.set_cons_zero, List.getElem_toArray, List.getElem_cons_zero, List.getElem_cons_succ]
  refine hl_done ?_
  clear hS
  try simp only [World.size_alloc] at hP
  have hX := Lib.hid (Sep.blk_vec (size := 1) (n := 2) (c := 2) (xs := ([⟨#[116]⟩ ++ itB thread, ⟨#[99]⟩ ++ itB call] : List ByteArray).map Value.string) hP.out rfl (by decide) (by decide) rfl rfl)
  clear hP
  generalize w1.alloc (.cells #[.string (⟨#[116]⟩ ++ itB thread), .string (⟨#[99]⟩ ++ itB call)] 9) = W1 at *
  generalize w1.heap.size = P1 at *
  obtain ⟨_, e0, e1, e2, e3, e4, e5, e6, e7, e8, _⟩ := hX.out.to1.b9
  cases inv with
  | true =>
    go_wp2_with fail
    clear e0 e1 e2 e3 e4 e5 e6 e7 e8
    have hX0 := hX
    replace hX := Lib.hid (show Sep (World.drew _) _ from hX.out.drew)
    have hS3 := Lib.hid (show (fun W : World => ∃ v m cs, Sep W (vec 9 1 v m cs :: blk w.heap.size 31 #[.int .i64 call, .int .i64 thread, .bool true, .int .i64 kind, .int .i64 txn, .int .i64 t, .int .i64 r, .int .i64 mode, .int .i64 code] :: old w :: [])) _ from ⟨_, _, _, hX.out⟩)
    refine hl_begin (fun W : World => ∃ v m cs, Sep W (vec 9 1 v m cs :: blk w.heap.size 31 #[.int .i64 call, .int .i64 thread, .bool true, .int .i64 kind, .int .i64 txn, .int .i64 t, .int .i64 r, .int .i64 mode, .int .i64 code] :: old w :: [])) [(0, true), (1, true), (2, true), (3, true), (5, true), (6, true), (7, true), (10, true), (11, true), (12, true), (14, true), (15, true), (16, true), (4, false), (8, false), (9, true), (13, false), (17, false), (18, false), (19, false), (20, true)] (by kernel_rfl) (by kernel_rfl) (by kernel_rfl) rfl (fun _ _ _ _ _ h => h) hS3.out ?_
    change HL _ _ _ _ _ _ (World.drew _)
    generalize World.drew _ = wd at *
    refine hl_take ?v8 rfl (by kernel_rfl) ?y8 ?z8
    case y8 => intro W hW; skip; replace hW := Lib.hid hW; go_simp; try rfl
    case z8 =>
    simp only [Act.put, List.setIfInBounds_toArray, List.set_cons_succ, List.set_cons_zero, List.getElem_toArray, List.getElem_cons_zero, List.getElem_cons_succ]
    refine hl_take ?v9 rfl (by kernel_rfl) ?y9 ?z9
    case y9 => intro W hW; skip; replace hW := Lib.hid hW; go_simp; try rfl
    case z9 =>
    simp only [Act.put, List.setIfInBounds_toArray, List.set_cons_succ, List.set_cons_zero, List.getElem_toArray, List.getElem_cons_zero, List.getElem_cons_succ]
    refine hl_take ?v10 rfl (by kernel_rfl) ?y10 ?z10
    case y10 => intro W hW; skip; replace hW := Lib.hid hW; go_simp; try rfl
    case z10 =>
    simp only [Act.put, List.setIfInBounds_toArray, List.set_cons_succ, List.set_cons_zero, List.getElem_toArray, List.getElem_cons_zero, List.getElem_cons_succ]
    refine hl_take ?v11 rfl (by kernel_rfl) ?y11 ?z11
    case y11 => intro W hW; obtain ⟨_, _, _, hW⟩ := hW; obtain ⟨_, e0, e1, e2, e3, e4, e5, e6, e7, e8, _⟩ := hW.to1.b9; replace hW := Lib.hid hW; go_simp; try rfl
    case z11 =>
    simp only [Act.put, List.setIfInBounds_toArray, List.set_cons_succ, List.set_cons_zero, List.getElem_toArray, List.getElem_cons_zero, List.getElem_cons_succ]
    refine hl_take ?v12 rfl (by kernel_rfl) ?y12 ?z12
    case y12 => intro W hW; skip; replace hW := Lib.hid hW; go_simp; try rfl
    case z12 =>
    simp only [Act.put, List.setIfInBounds_toArray, List.set_cons_succ, List.set_cons_zero, List.getElem_toArray, List.getElem_cons_zero, List.getElem_cons_succ]
    refine hl_take ?v13 rfl (by kernel_rfl) ?y13 ?z13
    case y13 => intro W hW; skip; replace hW := Lib.hid hW; go_simp; try rfl
    case z13 =>
    simp only [Act.put, List.setIfInBounds_toArray, List.set_cons_succ, List.set_cons_zero, List.getElem_toArray, List.getElem_cons_zero, List.getElem_cons_succ]
    refine hl_take ?v14 rfl (by kernel_rfl) ?y14 ?z14
    case y14 => intro W hW; obtain ⟨_, _, _, hW⟩ := hW; obtain ⟨_, e0, e1, e2, e3, e4, e5, e6, e7, e8, _⟩ := hW.to1.b9; replace hW := Lib.hid hW; go_simp; try rfl
    case z14 =>
    simp only [Act.put, List.setIfInBounds_toArray, List.set_cons_succ, List.set_cons_zero, List.getElem_toArray, List.getElem_cons_zero, List.getElem_cons_succ]
    refine hl_take ?v15 rfl (by kernel_rfl) ?y15 ?z15
    case y15 => intro W hW; skip; replace hW := Lib.hid hW; go_simp; try rfl
    case z15 =>
    simp only [Act.put, List.setIfInBounds_toArray, List.set_cons_succ, List.set_cons_zero, List.getElem_toArray, List.getElem_cons_zero, List.getElem_cons_succ]
    refine hl_take ?v16 rfl (by kernel_rfl) ?y16 ?z16
    case y16 => intro W hW; skip; replace hW := Lib.hid hW; go_simp; try rfl
    case z16 =>
    simp only [Act.put, List.setIfInBounds_toArray, List.set_cons_succ, List.set_cons_zero, List.getElem_toArray, List.getElem_cons_zero, List.getElem_cons_succ]
    refine hl_take ?v17 rfl (by kernel_rfl) ?y17 ?z17
    case y17 => intro W hW; obtain ⟨_, _, _, hW⟩ := hW; obtain ⟨_, e0, e1, e2, e3, e4, e5, e6, e7, e8, _⟩ := hW.to1.b9; replace hW := Lib.hid hW; go_simp; try rfl
    case z17 =>
    simp only [Act.put, List.setIfInBounds_toArray, List.set_cons_succ, List.set_cons_zero, List.getElem_toArray, List.getElem_cons_zero, List.getElem_cons_succ]
    refine hl_take ?v18 rfl (by kernel_rfl) ?y18 ?z18
    case y18 => intro W hW; skip; replace hW := Lib.hid hW; go_simp; try rfl
    case z18 =>
    simp only [Act.put, List.setIfInBounds_toArray, List.set_cons_succ, List.set_cons_zero, List.getElem_toArray, List.getElem_cons_zero, List.getElem_cons_succ]
    refine hl_take ?v19 rfl (by kernel_rfl) ?y19 ?z19
    case y19 => intro W hW; skip; replace hW := Lib.hid hW; go_simp; try rfl
    case z19 =>
    simp only [Act.put, List.setIfInBounds_toArray, List.set_cons_succ, List.set_cons_zero, List.getElem_toArray, List.getElem_cons_zero, List.getElem_cons_succ]
    refine hl_take ?v20 rfl (by kernel_rfl) ?y20 ?z20
    case y20 => intro W hW; obtain ⟨_, _, _, hW⟩ := hW; obtain ⟨_, e0, e1, e2, e3, e4, e5, e6, e7, e8, _⟩ := hW.to1.b9; replace hW := Lib.hid hW; go_simp; try rfl
    case z20 =>
    simp only [Act.put, List.setIfInBounds_toArray, List.set_cons_succ, List.set_cons_zero, List.getElem_toArray, List.getElem_cons_zero, List.getElem_cons_succ]
    refine hl_one rfl (by kernel_rfl) (fun K hK => ?_)
    go_simp
    go_at_call 26
    refine (word1_any _ _ (hR.out.below hX.out.tail.tail.gold)).mono ?_
    rintro e w1 ⟨rfl, q⟩
    replace hX := Lib.hid (hX.out.below q)
    clear q
    refine hK.out _ _ ⟨_, _, _, hX.out⟩ ?_
    clear hK K
    try simp only [Act.put, List.setIfInBounds_toArray, List.set_cons_succ, List.set_cons_zero, List.getElem_toArray, List.getElem_cons_zero, List.getElem_cons_succ]
    refine hl_one rfl (by kernel_rfl) (fun K hK => ?_)
    go_simp
    go_at_call 25
    refine (itoaE_any _ hx.out _ (hR.out.below hX.out.tail.tail.gold)).mono ?_
    rintro e w1 ⟨rfl, q⟩
    replace hX := Lib.hid (hX.out.below q)
    clear q
    refine hK.out _ _ ⟨_, _, _, hX.out⟩ ?_
    clear hK K
    try simp only [Act.put, List.setIfInBounds_toArray, List.set_cons_succ, List.set_cons_zero, List.getElem_toArray, List.getElem_cons_zero, List.getElem_cons_succ]
    refine hl_take ?v21 rfl (by kernel_rfl) ?y21 ?z21
    case y21 => intro W hW; skip; replace hW := Lib.hid hW; go_simp; try rfl
    case z21 =>
    simp only [Act.put, List.setIfInBounds_toArray, List.set_cons_succ, List.set_cons_zero, List.getElem_toArray, List.getElem_cons_zero, List.getElem_cons_succ]
    refine hl_one rfl (by kernel_rfl) (fun K hK => ?_)
    go_simp
    go_at_call 27
    refine (text_any _ _ _).mono ?_
    rintro e w1 ⟨rfl, q⟩
    replace hX := Lib.hid (hX.out.below q)
    clear q
    refine hK.out _ _ ⟨_, _, _, hX.out⟩ ?_
    clear hK K
    try simp only [Act.put, List.setIfInBounds_toArray, List.set_cons_succ, List.set_cons_zero, List.getElem_toArray, List.getElem_cons_zero, List.getElem_cons_succ]
    refine hl_one rfl (by kernel_rfl) (fun K hK => ?_)
    go_simp
    go_at_call 28
    refine (modeT_any _ hm0 hm6 _).mono ?_
    rintro e w1 ⟨rfl, q⟩
    replace hX := Lib.hid (hX.out.below q)
    clear q
    refine hK.out _ _ ⟨_, _, _, hX.out⟩ ?_
    clear hK K
    try simp only [Act.put, List.setIfInBounds_toArray, List.set_cons_succ, List.set_cons_zero, List.getElem_toArray, List.getElem_cons_zero, List.getElem_cons_succ]
    refine hl_one rfl (by kernel_rfl) (fun K hK => ?_)
    go_simp
    have hP4 := Lib.hid (hX.out.alloc #[.string (wordB wds1 kind), .string (⟨#[120]⟩ ++ itB txn), .string (txt t r), .string (mdL.getD mode.toNat ⟨#[]⟩)] 9)
    refine hK.out _ _ ⟨_, _, _, hP4.out.tail⟩ ?_
    clear hK K
    try simp only [Act.put, List.setIfInBounds_toArray, List.set_cons_succ, List.set_cons_zero, List.getElem_toArray, List.getElem_cons_zero, List.getElem_cons_succ]
    refine hl_one rfl (by kernel_rfl) (fun K hK => ?_)
    refine wp_append_sep hP4.out.to1 (.tmp 15) (.tmp 33) 62 (by rfl) i0 _ 16 Tryd.underlying62 hi0 hz0 hz1 hz2 rfl (by decide) (by rfl) 4 [.string (wordB wds1 kind), .string (⟨#[120]⟩ ++ itB txn), .string (txt t r), .string (mdL.getD mode.toNat ⟨#[]⟩)] (by exact src_strs hP4.out rfl) (by simp [Value.oneCell']) (by decide) (by decide) ?_
    intro na nc w2 q
    replace hX := Lib.hid q.to1.tail
    clear q hP4
    refine hK.out _ _ ⟨_, _, _, hX.out⟩ ?_
    clear hK K
    try simp only [Act.put, List.setIfInBounds_toArray, List.set_cons_succ, List.set_cons_zero, List.getElem_toArray, List.getElem_cons_zero, List.getElem_cons_succ]
    refine hl_take ?v22 rfl (by kernel_rfl) ?y22 ?z22
    case y22 => intro W hW; skip; replace hW := Lib.hid hW; go_simp; try rfl
    case z22 =>
    simp only [Act.put, List.setIfInBounds_toArray, List.set_cons_succ, List.set_cons_zero, List.getElem_toArray, List.getElem_cons_zero, List.getElem_cons_succ]
    refine hl_done ?_
    clear hS3
    replace hX := Lib.hid (show Sep _ [vec 9 1 (.slice na 6 nc) 6 ((partsE ⟨call, thread, true, ⟨kind, txn, t, r, mode, code⟩⟩).map Value.string), blk w.heap.size 31 #[.int .i64 call, .int .i64 thread, .bool true, .int .i64 kind, .int .i64 txn, .int .i64 t, .int .i64 r, .int .i64 mode, .int .i64 code], old w] from hX.out)
    obtain ⟨g, hna, hgl, hnc, hcs⟩ := join_parts hX.out rfl (by decide)
    subst hna
    have HJ := Lib.hid (Tryd.strings_Join g 0 nc (partsE ⟨call, thread, true, ⟨kind, txn, t, r, mode, code⟩⟩) ⟨#[32]⟩ _ hcs hgl (by show 6 ≤ _; decide) hnc (Nat.le_trans hJ.out (by decide)))
    clear hcs hgl hnc
    simp only [show (partsE ⟨call, thread, true, ⟨kind, txn, t, r, mode, code⟩⟩).length = 6 from rfl] at HJ
    go_wp2_with fail
    refine HJ.out.mono ?_
    rintro e w4 ⟨rfl, q⟩
    replace hX := Lib.hid (hX.out.below q)
    clear q HJ
    go_wp2_with fail
    go_ret
    exact ⟨rfl, hX.out.tail.tail.gold⟩
  | false =>
    go_wp2_with (first
      | (go_at_call 26; refine (word2_any _ _ (hR.out.below hX.out.tail.tail.gold)).mono ?_; rintro e w2 ⟨rfl, q⟩; replace hX := Lib.hid (hX.out.below q); clear q e0 e1 e2 e3 e4 e5 e6 e7 e8; have hP4 := Lib.hid (hX.out.alloc #[.string (wordB wds2 code)] 9))
      | (at_builtin; refine wpList_append_sep hP4.out.to1 rfl (.tmp 35) (.tmp 40) 62 (by rfl) i0 _ 16 Tryd.underlying62 hi0 hz0 hz1 hz2 rfl (by decide) (by rfl) 1 [.string (wordB wds2 code)] (by exact src_strs hP4.out rfl) (by simp [Value.oneCell']) (by decide) (by decide) ?_; intro na nc w3 q; replace hX := Lib.hid (show Sep _ [vec 9 1 (.slice na 3 nc) 3 ((partsE ⟨call, thread, false, ⟨kind, txn, t, r, mode, code⟩⟩).map Value.string), blk w.heap.size 31 #[.int .i64 call, .int .i64 thread, .bool false, .int .i64 kind, .int .i64 txn, .int .i64 t, .int .i64 r, .int .i64 mode, .int .i64 code], old w] from q.to1.tail); clear q hP4))
    obtain ⟨g, hna, hgl, hnc, hcs⟩ := join_parts hX.out rfl (by decide)
    subst hna
    have HJ := Lib.hid (Tryd.strings_Join g 0 nc (partsE ⟨call, thread, false, ⟨kind, txn, t, r, mode, code⟩⟩) ⟨#[32]⟩ _ hcs hgl (by show 3 ≤ _; decide) hnc (Nat.le_trans hJ.out (by decide)))
    clear hcs hgl hnc
    simp only [show (partsE ⟨call, thread, false, ⟨kind, txn, t, r, mode, code⟩⟩).length = 3 from rfl] at HJ
    go_wp2_with fail
    refine HJ.out.mono ?_
    rintro e w4 ⟨rfl, q⟩
    replace hX := Lib.hid (hX.out.below q)
    clear q HJ
    go_wp2_with fail
    go_ret
    exact ⟨rfl, hX.out.tail.tail.gold⟩
end Go.Proofs.YtechagciefhpbaaDoor
