/-
  The library's SortFunc at ints by cmp.Compare. No condition beside a slice of the call's own.
-/
import Derived.Test.YtmacpjnkmkaloaaSrtG
import Derived.Test.YtmacpjnkmkaloaaSrtL
namespace Go.Proofs.Ytmacpjnkmkaloaa
open Go.RowKit Go.Shelf Go.Sort
theorem compareI_any (x y : Int) (w : World) : Calls Try.prog 58 #[.int .i64 x, .int .i64 y] w fun e w' => e = .returned (.int .i64 (Lib.compareInt x y)) ∧ w' = w := AnyG.cmp_Compare_int Try.cmpInts x y w
theorem eg_cmp : ∀ args w, (callFunc 58 args).run Try.prog w = .ok (.enter 58 args) w := enters_of Try.func58 (by kernel_rfl) rfl
theorem sortInts_any (a : Option Addr) (n c : Nat) (xs : List Int) (w : World) (rs : List Res) (hS : Sep w (vec 3 1 (.slice a n c) n (xs.map (Value.int .i64)) :: rs)) (hl : xs.length = n) (hn : n ≤ 1000000) :
    Calls Try.prog 57 #[.slice a n c, .func (.func 58) #[] #[]] w fun e w' => e = .returned (.tuple #[]) ∧ ∃ ys : List Int, ys.Perm xs ∧ ys.Pairwise (· ≤ ·) ∧ Sep w' (vec 3 1 (.slice a n c) n (ys.map (Value.int .i64)) :: rs) := by
  rcases Nat.eq_zero_or_pos n with h0 | h0
  · subst h0
    have hx := List.eq_nil_of_length_eq_zero hl
    subst hx
    refine (AnyF.slices_SortFunc_none Try.sortIntsZ a c _ w).mono ?_
    rintro e w' ⟨rfl, rfl⟩
    exact ⟨rfl, [], List.Perm.refl _, List.Pairwise.nil, hS⟩
  · obtain ⟨g, rfl⟩ : ∃ g, a = some ⟨g, 0, none⟩ := by
      rcases hS.gvec.2 with ⟨_, h1⟩ | ⟨g, cap, cur, hv, _⟩
      · omega
      · injection hv with e1 _ _
        exact ⟨g, e1⟩
    obtain ⟨hH, hg⟩ := hS.vec_holds1 (Value.int .i64) xs hl
    have hcmp : CmpLays1 Try.prog 58 #[] (Value.int .i64) Lib.compareInt g 0 xs.toArray.size w := fun m os dk _ x y => (compareI_any x y _).mono fun e w' h => ⟨h.1, 0, #[], by rw [h.2, grow_empty]; rfl⟩
    have hcon := Any.slices_SortFunc Try.sortInts (Value.int .i64) (fun _ => rfl) Lib.compareInt swo_int 58 #[] g 0 c xs.toArray w eg_cmp hcmp hH hg (by simp; omega)
    rw [show xs.toArray.size = n by simp [hl]] at hcon
    refine Calls.mono (show Calls Try.prog 57 _ w _ from hcon) ?_
    rintro e w' ⟨rfl, d', m, os, hp, hs, rfl⟩
    rw [show n = xs.toArray.size by simp [hl]] at hp hs
    obtain ⟨hsz, hperm⟩ := perm_list hp
    have hsrt := sorted_list hsz hs
    refine ⟨rfl, d'.toList, by simpa using hperm, hsrt.imp (fun {a b} h => by rw [lt_int] at h; simpa using h), ?_⟩
    have := hS.vec_row (Value.int .i64) m d' os (by rw [hsz]; simp [hl])
    exact this
end Go.Proofs.Ytmacpjnkmkaloaa
