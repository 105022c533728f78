/-
  A valid name's text reads back as the name; different valid names have different texts. No condition.
-/
import Derived.Test.YtiaibmabmholaaaDoorNmRead2
namespace Go.Proofs.YtiaibmabmholaaaDoor
open Go.RowKit
theorem rest_cons (s : ByteArray) (l : List UInt8) (h : s.data.toList = 116 :: l) : Go.Lib.hasPrefix s.data.toList [116] = true ∧ (restB s).data.toList = l := by
  have hp : Go.Lib.hasPrefix s.data.toList [116] = true := by rw [h]; rfl
  refine ⟨hp, ?_⟩
  unfold restB
  rw [hp]
  have hz : s.size = l.length + 1 := by
    have : s.data.toList.length = s.size := by simp
    rw [← this, h]; rfl
  simp only [if_true]
  rw [show (s.extract 1 s.size).data.toList = (s.data.toList.take s.size).drop 1 by simp [List.extract_eq_take_drop, List.drop_take]]
  rw [h, hz]
  simp
theorem rdN_txt (t r : Int) (h : lv t r ≠ -1) : rdN (txt t r) = (t, r) := by
  rcases lv_spec t r with ⟨h1, h2, hl⟩ | ⟨h1, h2, h3, hl⟩ | ⟨h1, h2, h3, h4, hl⟩ | ⟨hl, _⟩
  · have e : txt t r = ⟨#[100, 98]⟩ := by simp [txt, hl]
    rw [e, h1, h2]
    rfl
  · obtain ⟨n, rfl⟩ := Int.eq_ofNat_of_zero_le h1
    have hn : n < 100 := by omega
    have e : (txt n r).data.toList = 116 :: dg n := by simp [txt, hl, dgB]
    obtain ⟨p1, p2⟩ := rest_cons _ _ e
    unfold rdN
    rw [p1, p2, cut_one hn]
    simp [atoiN, atoi_dg hn, h3]
  · obtain ⟨n, rfl⟩ := Int.eq_ofNat_of_zero_le h1
    obtain ⟨m, rfl⟩ := Int.eq_ofNat_of_zero_le h3
    have hn : n < 100 := by omega
    have hm : m < 100 := by omega
    have e : (txt n m).data.toList = 116 :: (dg n ++ [46, 114] ++ dg m) := by simp [txt, hl, dgB]
    obtain ⟨p1, p2⟩ := rest_cons _ _ e
    unfold rdN
    rw [p1, p2, cut_two hn hm]
    simp [atoiN, atoi_dg hn, atoi_dg hm]
  · exact absurd hl h
theorem txt_inj {a a' b b' : Int} (h : lv a a' ≠ -1) (k : lv b b' ≠ -1) (e : txt a a' = txt b b') : a = b ∧ a' = b' := by
  have := rdN_txt a a' h
  rw [e, rdN_txt b b' k] at this
  injection this with e1 e2
  exact ⟨e1.symm, e2.symm⟩
theorem rdN_bad : rdN ⟨#[63]⟩ = (-1, -1) := rfl
end Go.Proofs.YtiaibmabmholaaaDoor
