/-
  The store's Clone, Len, Same. No condition beside a store that can be read.
-/
import Derived.Test.YtbpeajcfabjphaaSAll
import Derived.Test.YtbpeajcfabjphaaSameR
import Derived.Shelf.SlMaps.Clone
namespace Go.Proofs.Ytbpeajcfabjphaa
open Go.RowKit Go.MapKept
set_option maxHeartbeats 2000000 in
set_option maxRecDepth 100000 in
theorem mapsClone_any (m : Nat) (E : Ent) (w : World) (rs : List Res) (hS : Sep w (mapr ekN evI m E :: rs)) :
    Calls Try.prog 41 #[.map (some m)] w fun e w' => e = .returned (.map (some w.heap.size)) ∧ Sep w' (mapr ekN evI w.heap.size E :: mapr ekN evI m E :: rs) := by
  obtain ⟨es, clock, hb, hs, hl⟩ := hS.gmap
  have hN : Sep (w.alloc (.map es clock)) (mapr ekN evI w.heap.size E :: mapr ekN evI m E :: rs) := hS.new (A := fun b => b = w.heap.size) ⟨fun _ => Iff.rfl, es, clock, (MapKept.heap_alloc w _).1, hs, hl⟩ (Keeps.alloc w _) (fun b hb => by omega)
  replace hN := Lib.hid hN
  clear hs hl hS
  have hq := fun w => run_eql_map_nil_sl (P := Try.prog) w 61 _ _ (some m) Try.underlying61
  go_enter Try.func41, Try.ntmps41
  go_wp2
  rw [run_callFunc_extern Try.func51 (by kernel_rfl) (by kernel_rfl) (by kernel_rfl) (e := Extern.MapsClone.clone) (by kernel_rfl), run_maps_clone_sl w 61 hb]
  simp only [Result.andThen]
  rw [Oper.upon_value]
  go_wp2
  rw [run_typeAssert_map_sl _ 61 20 _ _ _ Try.underlying61]
  simp only [Result.andThen]
  rw [Oper.upon_value]
  go_wp2
  go_ret
  exact ⟨rfl, hN.out⟩
theorem sclone_any (p m : Nat) (E : Ent) (w : World) (rs : List Res) (hS : Sep w (sto p m E rs)) :
    Calls Try.prog 24 #[.pointer (some ⟨p, 0, none⟩)] w fun e w' => ∃ p' m', e = .returned (.pointer (some ⟨p', 0, none⟩)) ∧ Sep w' (sto p' m' E (sto p m E rs)) := by
  have HC := Lib.hid (mapsClone_any m E w _ hS.to1)
  obtain ⟨_, c0, _⟩ := hS.b1
  clear hS
  go_enter Try.func24, Try.ntmps24
  go_wp2_with fail
  refine HC.out.mono ?_
  rintro e w1 ⟨rfl, q⟩
  replace q := Lib.hid (q.alloc #[.map (some w.heap.size)] 63)
  go_wp2_with fail
  go_ret
  exact ⟨_, _, rfl, (show Sep _ (sto _ _ E (mapr ekN evI m E :: blk p 63 #[.map (some m)] :: rs)) from q.out) |> fun h => h.perm (by exact ((List.Perm.swap _ _ _).cons _).cons _)⟩
theorem all_nil (w : World) : Calls Try.prog 13 #[.pointer none] w fun e w' => e = .returned (.slice none 0 0) ∧ w = w' := by
  go_enter Try.func13, Try.ntmps13
  go_wp2_with fail
  go_ret
  exact ⟨rfl, rfl⟩
theorem slen_any (p m : Nat) (E : Ent) (w : World) (rs : List Res) (hS : Sep w (sto p m E rs)) (hE : E.length ≤ 1000) :
    Calls Try.prog 20 #[.pointer (some ⟨p, 0, none⟩)] w fun e w' => e = .returned (.int .i64 (srtE E).length) ∧ Sep w' (sto p m E rs) := by
  have HA := Lib.hid (all_any p m E w rs hS hE)
  clear hS
  go_enter Try.func20, Try.ntmps20
  go_wp2_with fail
  refine HA.out.mono ?_
  rintro e w1 ⟨a, c, rfl, q⟩
  replace q := Lib.hid q.tail
  go_wp2_with fail
  go_ret
  exact ⟨rfl, q.out⟩
/-- Two stores that share no block. -/
theorem ssame_any (p m p' m' : Nat) (E E' : Ent) (w : World) (rs : List Res) (hS : Sep w (sto p m E (sto p' m' E' rs))) (hE : E.length ≤ 1000) (hE' : E'.length ≤ 1000) :
    Calls Try.prog 11 #[.pointer (some ⟨p, 0, none⟩), .pointer (some ⟨p', 0, none⟩)] w fun e w' => e = .returned (.bool (decide (srtE E = srtE E'))) ∧ Sep w' (sto p m E (sto p' m' E' rs)) := by
  have HA := Lib.hid (all_any p m E w _ hS hE)
  have HA' := Lib.hid (fun W rs' hW => all_any p' m' E' W rs' hW hE')
  have HQ := Lib.hid (fun u v W hu hv => equal_row u v (srtE E) (srtE E') W (by rw [srtE_len]; exact hE) hu hv)
  generalize decide (srtE E = srtE E') = b at *
  generalize (srtE E) = X at *
  generalize (srtE E') = Y at *
  clear hS hE hE'
  go_enter Try.func11, Try.ntmps11
  go_wp2_with fail
  refine HA.out.mono ?_
  rintro e w1 ⟨a, c, rfl, q⟩
  replace q := Lib.hid ((show Sep _ (_ :: _ :: _ :: _ :: _ :: rs) from q).to4.to4)
  go_wp2_with fail
  refine (HA'.out _ _ (show Sep _ (sto p' m' E' (_ :: _ :: _ :: rs)) from q.out)).mono ?_
  rintro e w2 ⟨a', c', rfl, q2⟩
  replace q2 := Lib.hid q2
  go_wp2_with fail
  refine (HQ.out _ _ _ (show Sep _ (_ :: _ :: _ :: _ :: _ :: _ :: rs) from q2.out).to3.vec_rl q2.out.vec_rl).mono ?_
  rintro e w3 ⟨rfl, hb⟩
  replace q2 := Lib.hid ((show Sep _ (_ :: _ :: _ :: _ :: _ :: _ :: rs) from q2.out.below hb))
  go_wp2_with fail
  go_ret
  exact ⟨rfl, (((q2.out.tail.to2).tail.to3).to3)⟩
end Go.Proofs.Ytbpeajcfabjphaa
