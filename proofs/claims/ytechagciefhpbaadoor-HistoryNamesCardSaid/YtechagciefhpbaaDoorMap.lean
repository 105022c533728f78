/-
  Maps as parts of memory: a block that is a map, known as the list of its entries in the order of their laying. No condition.
-/
import Derived.Test.YtechagciefhpbaaDoorSep
import Derived.Maps.OwnOps
import Derived.Maps.OwnSet
namespace Go.Proofs.YtechagciefhpbaaDoor
set_option linter.unusedSimpArgs false
set_option linter.unusedVariables false
set_option linter.unnecessarySimpa false
open Go.RowKit Go.MapKept
open Go.ChangeMaps (setBlock modify_eq_set)

/-- What the laws on a map need of its key's type, whose values are ek's. -/
structure KeyEnc (P : Program) (k : TypeId) {K : Type} (ek : K → Value) : Prop where
  inj : ∀ {a b : K}, ek a = ek b → a = b
  check : ∀ (w : World) (em : Bool) (a : K), (Instr.checkKey em 10000 k (ek a)).run P w = .ok () w
  find : ∀ (w : World) (a : K) (es : List MapEntry), (∀ e ∈ es, ∃ b, e.key = ek b) →
    ((Instr.findKey k (ek a) es).run P w = .ok none w ∧ ∀ e ∈ es, e.key ≠ ek a) ∨ ∃ j e, (Instr.findKey k (ek a) es).run P w = .ok (some (j, e.val)) w ∧ es[j]? = some e ∧ e.key = ek a ∧ ∀ i e', i < j → es[i]? = some e' → e'.key ≠ ek a
  stays : ∀ (w : World) (a : K), (Instr.keyThatStays (ek a) (ek a)).run P w = .ok (ek a) w

theorem findNow_first {d : TypeDesc} {k : Value} (hk : IsKey d k) : ∀ (l : List MapEntry) (i : Nat), (∀ x ∈ l, IsKey d x.key) →
    (Instr.findNow d k l i = some none ∧ ∀ x ∈ l, x.key ≠ k) ∨ ∃ j e, Instr.findNow d k l i = some (some (i + j, e.val)) ∧ l[j]? = some e ∧ e.key = k ∧ ∀ q e', q < j → l[q]? = some e' → e'.key ≠ k
  | [], _, _ => .inl ⟨rfl, by simp⟩
  | e :: es, i, h => by
    obtain ⟨r, hr, hiff⟩ := sameNow_of_keys hk (h e (.head _))
    cases r with
    | true => exact .inr ⟨0, e, by simp [Instr.findNow, hr], rfl, (hiff.1 rfl).symm, fun q _ hq => by omega⟩
    | false =>
      have hne : e.key ≠ k := fun e1 => by have := hiff.2 e1.symm; cases this
      rcases findNow_first hk es (i + 1) (fun x hx => h x (.tail _ hx)) with ⟨h1, h2⟩ | ⟨j, e', h1, h2, h3, h4⟩
      · exact .inl ⟨by simp [Instr.findNow, hr, h1], fun x hx => (List.mem_cons.1 hx).elim (fun e1 => e1 ▸ hne) (h2 x)⟩
      · refine .inr ⟨j + 1, e', by simp [Instr.findNow, hr, h1]; omega, by simpa using h2, h3, fun q e2 hq hq2 => ?_⟩
        cases q with
        | zero => simp at hq2; exact hq2 ▸ hne
        | succ q => exact h4 q e2 (by omega) (by simpa using hq2)

/-- Keys of type int. -/
def ekI (a : Int) : Value := .int .i64 a
theorem keyEnc_int {P : Program} {k : TypeId} (hk : P.underlying k = some (.int .i64)) : KeyEnc P k ekI where
  inj h := by injection h
  check w em a := run_checkKey hk (k := ekI a) rfl em 9999
  find w a es hes := by
    have hks : ∀ y ∈ es, IsKey (.int .i64) y.key := fun y hy => by
      obtain ⟨b, hb⟩ := hes y hy
      rw [hb]
      rfl
    rcases findNow_first (d := .int .i64) (k := ekI a) rfl es 0 hks with ⟨h1, h2⟩ | ⟨j, e0, h1, h2, h3, h4⟩
    · exact .inl ⟨run_findKey hk h1, h2⟩
    · exact .inr ⟨j, e0, by simpa using run_findKey hk h1, h2, h3, h4⟩
  stays w a := run_keyThatStays (d := .int .i64) rfl

/-! ### lists of entries -/
section
variable {K V : Type} [DecidableEq K]
def getL (l : List (K × V)) (a : K) : Option V := (l.find? (fun p => decide (p.1 = a))).map (·.2)
def hasL (l : List (K × V)) (a : K) : Bool := l.any (fun p => decide (p.1 = a))
def putL (l : List (K × V)) (a : K) (v : V) : List (K × V) := if hasL l a then l.map (fun p => if p.1 = a then (a, v) else p) else l ++ [(a, v)]
def delL (l : List (K × V)) (a : K) : List (K × V) := l.filter (fun p => !decide (p.1 = a))
def NodupL (l : List (K × V)) : Prop := (l.map (·.1)).Nodup
theorem hasL_iff {l : List (K × V)} {a : K} : hasL l a = true ↔ a ∈ l.map (·.1) := by
  simp [hasL]
theorem getL_some_iff {l : List (K × V)} (hn : NodupL l) {a : K} {v : V} : getL l a = some v ↔ (a, v) ∈ l := by
  induction l with
  | nil => simp [getL]
  | cons p l ih =>
    obtain ⟨b, u⟩ := p
    unfold NodupL at hn
    simp only [List.map_cons, List.nodup_cons] at hn
    by_cases h : b = a
    · subst h
      have : ∀ v, (b, v) ∉ l := fun v hv => hn.1 (List.mem_map.2 ⟨_, hv, rfl⟩)
      simp [getL, this]
      exact eq_comm
    · have e : getL ((b, u) :: l) a = getL l a := by simp [getL, h]
      rw [e, ih hn.2]
      simp [Ne.symm h]
theorem getL_none_iff {l : List (K × V)} {a : K} : getL l a = none ↔ hasL l a = false := by
  simp [getL, hasL]
theorem getL_isSome {l : List (K × V)} {a : K} : (getL l a).isSome = hasL l a := by
  cases h : getL l a with
  | none => rw [getL_none_iff.1 h]; rfl
  | some v =>
    cases h2 : hasL l a with
    | true => rfl
    | false => rw [getL_none_iff.2 h2] at h; cases h
theorem getL_append {l m : List (K × V)} {a : K} : getL (l ++ m) a = (getL l a).or (getL m a) := by
  simp [getL, List.find?_append]
  cases l.find? (fun p => decide (p.1 = a)) <;> simp
theorem getL_putL (l : List (K × V)) (a b : K) (v : V) : getL (putL l a v) b = if b = a then some v else getL l b := by
  unfold putL
  by_cases hh : hasL l a = true
  · rw [if_pos hh]
    induction l with
    | nil => simp [hasL] at hh
    | cons p l ih =>
      obtain ⟨c, u⟩ := p
      by_cases hc : c = a
      · subst hc
        by_cases hb : b = c
        · subst hb; simp [getL]
        · have h1 : getL (((c, u) :: l).map (fun p => if p.1 = c then (c, v) else p)) b = getL (l.map (fun p => if p.1 = c then (c, v) else p)) b := by simp [getL, Ne.symm hb]
          have h2 : getL ((c, u) :: l) b = getL l b := by simp [getL, Ne.symm hb]
          rw [h1, h2, if_neg hb]
          clear ih hh h1 h2
          induction l with
          | nil => rfl
          | cons q l ih =>
            obtain ⟨d, x⟩ := q
            by_cases hd : d = c
            · subst hd
              have e1 : getL (((d, x) :: l).map (fun p => if p.1 = d then (d, v) else p)) b = getL (l.map (fun p => if p.1 = d then (d, v) else p)) b := by simp [getL, Ne.symm hb]
              have e2 : getL ((d, x) :: l) b = getL l b := by simp [getL, Ne.symm hb]
              rw [e1, e2, ih]
            · by_cases hd2 : d = b
              · subst hd2; simp [getL, hd]
              · have e1 : getL (((d, x) :: l).map (fun p => if p.1 = c then (c, v) else p)) b = getL (l.map (fun p => if p.1 = c then (c, v) else p)) b := by simp [getL, hd, hd2]
                have e2 : getL ((d, x) :: l) b = getL l b := by simp [getL, hd2]
                rw [e1, e2, ih]
      · have hh2 : hasL l a = true := by simpa [hasL, hc] using hh
        by_cases hb : c = b
        · subst hb; simp [getL, hc]
        · have e1 : getL (((c, u) :: l).map (fun p => if p.1 = a then (a, v) else p)) b = getL (l.map (fun p => if p.1 = a then (a, v) else p)) b := by simp [getL, hc, hb]
          have e2 : getL ((c, u) :: l) b = getL l b := by simp [getL, hb]
          rw [e1, e2, ih hh2]
  · have hh2 : hasL l a = false := by simpa using hh
    rw [if_neg hh, getL_append]
    by_cases hb : b = a
    · subst hb
      rw [getL_none_iff.2 hh2]
      simp [getL]
    · rw [if_neg hb]
      have : getL [(a, v)] b = none := by simp [getL, Ne.symm hb]
      rw [this]
      simp
theorem getL_delL (l : List (K × V)) (a b : K) : getL (delL l a) b = if b = a then none else getL l b := by
  unfold delL
  induction l with
  | nil => simp [getL]
  | cons p l ih =>
    obtain ⟨c, u⟩ := p
    by_cases hc : c = a
    · subst hc
      have : ((c, u) :: l).filter (fun p => !decide (p.1 = c)) = l.filter (fun p => !decide (p.1 = c)) := by simp
      rw [this, ih]
      by_cases hb : b = c
      · simp [hb]
      · have e2 : getL ((c, u) :: l) b = getL l b := by simp [getL, Ne.symm hb]
        simp [hb, e2]
    · have : ((c, u) :: l).filter (fun p => !decide (p.1 = a)) = (c, u) :: l.filter (fun p => !decide (p.1 = a)) := by simp [hc]
      rw [this]
      by_cases hb : c = b
      · subst hb; simp [getL, hc]
      · have e1 : getL ((c, u) :: l.filter (fun p => !decide (p.1 = a))) b = getL (l.filter (fun p => !decide (p.1 = a))) b := by simp [getL, hb]
        have e2 : getL ((c, u) :: l) b = getL l b := by simp [getL, hb]
        rw [e1, e2, ih]
theorem hasL_putL (l : List (K × V)) (a b : K) (v : V) : hasL (putL l a v) b = (decide (b = a) || hasL l b) := by
  rw [← getL_isSome, ← getL_isSome, getL_putL]
  by_cases h : b = a <;> simp [h]
theorem hasL_delL (l : List (K × V)) (a b : K) : hasL (delL l a) b = (!decide (b = a) && hasL l b) := by
  rw [← getL_isSome, ← getL_isSome, getL_delL]
  by_cases h : b = a <;> simp [h]
theorem putL_keys (l : List (K × V)) (a : K) (v : V) : (putL l a v).map (·.1) = if hasL l a then l.map (·.1) else l.map (·.1) ++ [a] := by
  unfold putL
  split
  · rw [List.map_map]
    refine List.map_congr_left fun p _ => ?_
    simp only [Function.comp]
    split
    · rename_i h; exact h.symm
    · rfl
  · simp
theorem NodupL.put {l : List (K × V)} (h : NodupL l) (a : K) (v : V) : NodupL (putL l a v) := by
  unfold NodupL at *
  rw [putL_keys]
  split
  · exact h
  · rename_i hh
    rw [List.nodup_append]
    refine ⟨h, by simp, fun x hx y hy => ?_⟩
    simp at hy
    subst hy
    rintro rfl
    exact hh (hasL_iff.2 hx)
theorem NodupL.del {l : List (K × V)} (h : NodupL l) (a : K) : NodupL (delL l a) := by
  unfold NodupL at *
  exact h.sublist (List.filter_sublist.map _)
end

/-! ### a map's block -/
def MapAt (w : World) (b : Nat) (l : List (Value × Value)) : Prop := ∃ es clock, w.heap[b]? = some (.map es clock) ∧ Stamped es clock ∧ es.toList.map (fun e => (e.key, e.val)) = l
def mapr {K V : Type} (ek : K → Value) (ev : V → Value) (b : Nat) (l : List (K × V)) : Res where
  at_ A w := (∀ x, A x ↔ x = b) ∧ MapAt w b (l.map fun p => (ek p.1, ev p.2))
  lt h x hx := by
    obtain ⟨h1, es, clock, hb, _⟩ := h
    rw [(h1 x).1 hx]
    exact (Array.getElem?_eq_some_iff.1 hb).1
  keep {A w w'} h k := by
    obtain ⟨h1, es, clock, hb, rest⟩ := h
    exact ⟨h1, es, clock, (k.block b (Array.getElem?_eq_some_iff.1 hb).1 ((h1 b).2 rfl)).trans hb, rest⟩
section
variable {P : Program} {K V : Type} {ek : K → Value} {ev : V → Value} {w w' : World} {b : Nat} {l : List (K × V)} {rs : List Res} {k e t : TypeId}
theorem Sep.gmap (h : Sep w (mapr ek ev b l :: rs)) : MapAt w b (l.map fun p => (ek p.1, ev p.2)) := by
  obtain ⟨A, h1, _⟩ := h.out
  exact h1.2
theorem Sep.map_lt (h : Sep w (mapr ek ev b l :: rs)) : b < w.heap.size := by
  obtain ⟨es, clock, hb, _⟩ := h.gmap
  exact (Array.getElem?_eq_some_iff.1 hb).1
theorem Sep.map_new (h : Sep w rs) (ek : K → Value) (ev : V → Value) : Sep (w.alloc (.map #[] 0)) (mapr ek ev w.heap.size ([] : List (K × V)) :: rs) :=
  h.new (A := fun b => b = w.heap.size) ⟨fun _ => Iff.rfl, #[], 0, (MapKept.heap_alloc w _).1, stamped_empty 0, rfl⟩ (Keeps.alloc w _) (fun b hb => by omega)
theorem Sep.map_nodup (E : KeyEnc P k ek) (h : Sep w (mapr ek ev b l :: rs)) : NodupL l := by
  obtain ⟨es, clock, _, hs, hl⟩ := h.gmap
  have h3 := hs.2.2
  have e : es.toList.map (·.key) = l.map (fun p => ek p.1) := by
    have := congrArg (List.map Prod.fst) hl
    rw [List.map_map, List.map_map] at this
    exact this
  rw [e] at h3
  unfold NodupL
  rw [List.Nodup, List.pairwise_map] at h3 ⊢
  exact h3.imp fun h e1 => h (by rw [e1])
theorem es_keys {es : Array MapEntry} (hl : es.toList.map (fun e => (e.key, e.val)) = l.map fun p => (ek p.1, ev p.2)) : ∀ e ∈ es.toList, ∃ b, e.key = ek b := by
  intro e he
  have : (e.key, e.val) ∈ l.map fun p => (ek p.1, ev p.2) := by rw [← hl]; exact List.mem_map.2 ⟨e, he, rfl⟩
  obtain ⟨p, _, hp⟩ := List.mem_map.1 this
  exact ⟨p.1, (congrArg Prod.fst hp).symm⟩
theorem es_at {es : Array MapEntry} (hl : es.toList.map (fun e => (e.key, e.val)) = l.map fun p => (ek p.1, ev p.2)) {j : Nat} {e0 : MapEntry} (hj : es.toList[j]? = some e0) : ∃ p, l[j]? = some p ∧ e0.key = ek p.1 ∧ e0.val = ev p.2 := by
  have h1 : (es.toList.map (fun e => (e.key, e.val)))[j]? = some (e0.key, e0.val) := by rw [List.getElem?_map, hj]; rfl
  rw [hl, List.getElem?_map] at h1
  cases hp : l[j]? with
  | none => rw [hp] at h1; cases h1
  | some p =>
    rw [hp] at h1
    injection h1 with h1
    exact ⟨p, rfl, (congrArg Prod.fst h1).symm, (congrArg Prod.snd h1).symm⟩
variable [DecidableEq K]
/-- Finding a key. -/
theorem find_cases (E : KeyEnc P k ek) {es : Array MapEntry} (hl : es.toList.map (fun e => (e.key, e.val)) = l.map fun p => (ek p.1, ev p.2)) (w : World) (a : K) :
    ((Instr.findKey k (ek a) es.toList).run P w = .ok none w ∧ hasL l a = false ∧ ∀ e ∈ es.toList, e.key ≠ ek a) ∨
    ∃ j e0 v, (Instr.findKey k (ek a) es.toList).run P w = .ok (some (j, e0.val)) w ∧ es.toList[j]? = some e0 ∧ e0.key = ek a ∧ e0.val = ev v ∧ l[j]? = some (a, v) ∧ getL l a = some v ∧ ∀ i p, i < j → l[i]? = some p → p.1 ≠ a := by
  rcases E.find w a es.toList (es_keys hl) with ⟨h1, h2⟩ | ⟨j, e0, h1, h2, h3, h4⟩
  · refine .inl ⟨h1, ?_, h2⟩
    cases hh : hasL l a with
    | false => rfl
    | true =>
      obtain ⟨p, hp, hpa⟩ := List.mem_map.1 (hasL_iff.1 hh)
      have : (ek p.1, ev p.2) ∈ es.toList.map (fun e => (e.key, e.val)) := by rw [hl]; exact List.mem_map.2 ⟨p, hp, rfl⟩
      obtain ⟨x, hx, hxe⟩ := List.mem_map.1 this
      exact absurd ((congrArg Prod.fst hxe).trans (by rw [hpa])) (h2 x hx)
  · obtain ⟨p, hp, hk, hv⟩ := es_at hl h2
    obtain ⟨pa, pv⟩ := p
    have hpa : pa = a := E.inj (hk.symm.trans h3)
    subst hpa
    have hbefore : ∀ i p, i < j → l[i]? = some p → p.1 ≠ pa := by
      intro i p hi hip e1
      have hij : i < es.toList.length := by
        have h5 := (List.getElem?_eq_some_iff.1 h2).1
        omega
      obtain ⟨p', hp', hk', _⟩ := es_at hl (List.getElem?_eq_getElem hij)
      rw [hip] at hp'
      injection hp' with hp'
      subst hp'
      exact h4 i _ hi (List.getElem?_eq_getElem hij) (by rw [hk', e1])
    refine .inr ⟨j, e0, pv, h1, h2, h3, hv, hp, ?_, hbefore⟩
    have hf : l.find? (fun p => decide (p.1 = pa)) = some (pa, pv) := by
      rw [List.find?_eq_some_iff_getElem]
      obtain ⟨hj1, hj2⟩ := List.getElem?_eq_some_iff.1 hp
      refine ⟨by simp, j, hj1, hj2, fun i hi => ?_⟩
      simp
      exact hbefore i l[i] hi (List.getElem?_eq_getElem (by omega))
    simp [getL, hf]
/-- 'm[k]', 'v, ok := m[k]'. -/
theorem run_lookup_map (E : KeyEnc P k ek) (ht : P.underlying t = some (.map k e)) (h : Sep w (mapr ek ev b l :: rs)) {z : Value} (hz : (zeroValue e).run P w = .ok z w) (a : K) (c : Bool) :
    (Instr.lookup t (.map (some b)) (ek a) c).run P w = .ok (if c then .tuple #[((getL l a).map ev).getD z, .bool (hasL l a)] else ((getL l a).map ev).getD z) w := by
  obtain ⟨es, clock, hb, hs, hl⟩ := h.gmap
  rcases find_cases E hl w a with ⟨h1, h2, _⟩ | ⟨j, e0, v, h1, _, _, h4, _, h5, _⟩
  · simp [Instr.lookup, run_underlying ht, MapKept.run_getObj_map hb, E.check w _ a, h1, hz, Result.andThen, h2, getL_none_iff.2 h2]
  · have h6 : hasL l a = true := by rw [← getL_isSome, h5]; rfl
    simp [Instr.lookup, run_underlying ht, MapKept.run_getObj_map hb, E.check w _ a, h1, Result.andThen, h6, h5, h4]
theorem map_set_one {j : Nat} {a : K} {v v' : V} (hn : NodupL l) (hj : l[j]? = some (a, v')) : l.map (fun p => if p.1 = a then (a, v) else p) = l.set j (a, v) := by
  refine List.ext_getElem? fun i => ?_
  rw [List.getElem?_map]
  by_cases hij : i = j
  · subst hij
    have := (List.getElem?_eq_some_iff.1 hj).1
    rw [hj, List.getElem?_set_self this]
    simp
  · rw [List.getElem?_set_ne (Ne.symm hij)]
    cases hp : l[i]? with
    | none => rfl
    | some p =>
      have hne : p.1 ≠ a := by
        intro e1
        unfold NodupL at hn
        rw [List.Nodup, List.pairwise_map, List.pairwise_iff_getElem] at hn
        obtain ⟨hi1, hi2⟩ := List.getElem?_eq_some_iff.1 hp
        obtain ⟨hj1, hj2⟩ := List.getElem?_eq_some_iff.1 hj
        rcases Nat.lt_or_gt_of_ne hij with hlt | hlt
        · exact hn i j hi1 hj1 hlt (by rw [hi2, hj2, e1])
        · exact hn j i hj1 hi1 hlt (by rw [hi2, hj2, e1])
      simp [hne]
theorem filter_one_out {j : Nat} {a : K} {v' : V} (hn : NodupL l) (hj : l[j]? = some (a, v')) : delL l a = l.eraseIdx j := by
  induction l generalizing j with
  | nil => simp at hj
  | cons p l ih =>
    unfold NodupL at hn
    simp only [List.map_cons, List.nodup_cons] at hn
    cases j with
    | zero =>
      simp at hj
      subst hj
      have : delL ((a, v') :: l) a = delL l a := by simp [delL]
      rw [this]
      simp only [List.eraseIdx_cons_zero]
      refine List.filter_eq_self.2 fun q hq => ?_
      have : q.1 ≠ a := fun e1 => hn.1 (e1 ▸ List.mem_map.2 ⟨q, hq, rfl⟩)
      simp [this]
    | succ j =>
      have hne : p.1 ≠ a := by
        intro e1
        have hm : (a, v') ∈ l := List.mem_of_getElem? (by simpa using hj)
        exact hn.1 (e1 ▸ List.mem_map.2 ⟨_, hm, rfl⟩)
      have : delL (p :: l) a = p :: delL l a := by simp [delL, hne]
      rw [this, ih hn.2 (by simpa using hj)]
      rfl
/-- 'm[k] = v'. -/
theorem run_mapUpdate_map (E : KeyEnc P k ek) (ht : P.underlying t = some (.map k e)) (h : Sep w (mapr ek ev b l :: rs)) (a : K) (v : V) :
    ∃ w', (Instr.mapUpdate t (.map (some b)) (ek a) (ev v)).run P w = .ok () w' ∧ Sep w' (mapr ek ev b (putL l a v) :: rs) := by
  have hn := h.map_nodup E
  obtain ⟨A, h1, h2⟩ := h.open_
  obtain ⟨hA, es, clock, hb, hs, hl⟩ := h1
  have key : ∀ es' clock', Stamped es' clock' → es'.toList.map (fun e => (e.key, e.val)) = (putL l a v).map (fun p => (ek p.1, ev p.2)) → Sep (setBlock w b (.map es' clock')) (mapr ek ev b (putL l a v) :: rs) := fun es' clock' hs' hl' =>
    h2 _ _ A ⟨hA, es', clock', ChangeMaps.heap_setBlock_same hb _, hs', hl'⟩ ⟨rfl, rfl, rfl, by simp [setBlock], fun x _ hx => ChangeMaps.heap_setBlock_other hb _ (fun e1 => hx ((hA x).2 e1))⟩ (fun _ => .inl)
  rcases find_cases E hl w a with ⟨h1, h2, h3⟩ | ⟨j, e0, v0, h1, h3, h4, h5, h6, h7, _⟩
  · refine ⟨_, ?_, key (es.push ⟨ek a, ev v, clock⟩) (clock + 1) (stamped_push hs h3) ?_⟩
    · simp [Instr.mapUpdate, run_underlying ht, MapKept.run_getObj_map hb, E.check w false a, h1, MapKept.run_setObj_map _ hb, Result.andThen, setBlock]
    · rw [Array.toList_push, List.map_append, hl]
      simp [putL, h2]
  · have hj : es[j]? = some e0 := by simpa using h3
    refine ⟨_, ?_, key (es.modify j (fun e' => { e' with key := ek a, val := ev v })) clock (stamped_modify hs _ _ (fun _ _ => rfl) (fun e' _ he' => ?_)) ?_⟩
    · simp [Instr.mapUpdate, run_underlying ht, MapKept.run_getObj_map hb, E.check w false a, h1, hj, h4, E.stays w a, MapKept.run_setObj_map _ hb, Result.andThen, setBlock]
    · rw [hj] at he'
      injection he' with he'
      subst he'
      exact h4.symm
    · have h8 : hasL l a = true := by rw [← getL_isSome, h7]; rfl
      rw [Array.toList_modify, modify_eq_set _ _ _ _ h3, List.map_set, hl]
      simp only [putL, h8, if_true]
      rw [map_set_one hn h6, List.map_set]
/-- 'delete(m, k)'. -/
theorem run_delete_map (E : KeyEnc P k ek) (ht : P.underlying t = some (.map k e)) (h : Sep w (mapr ek ev b l :: rs)) (a : K) (ty : TypeId) :
    ∃ w', (Builtin.delete_ #[t, k] ty #[.map (some b), ek a]).run P w = .ok (.tuple #[]) w' ∧ Sep w' (mapr ek ev b (delL l a) :: rs) := by
  have hn := h.map_nodup E
  obtain ⟨A, h1, h2⟩ := h.open_
  obtain ⟨hA, es, clock, hb, hs, hl⟩ := h1
  have key : ∀ es' clock', Stamped es' clock' → es'.toList.map (fun e => (e.key, e.val)) = (delL l a).map (fun p => (ek p.1, ev p.2)) → Sep (setBlock w b (.map es' clock')) (mapr ek ev b (delL l a) :: rs) := fun es' clock' hs' hl' =>
    h2 _ _ A ⟨hA, es', clock', ChangeMaps.heap_setBlock_same hb _, hs', hl'⟩ ⟨rfl, rfl, rfl, by simp [setBlock], fun x _ hx => ChangeMaps.heap_setBlock_other hb _ (fun e1 => hx ((hA x).2 e1))⟩ (fun _ => .inl)
  rcases find_cases E hl w a with ⟨h1, h2, h3⟩ | ⟨j, e0, v0, h1, h3, h4, h5, h6, h7, _⟩
  · refine ⟨_, ?_, key es clock hs ?_⟩
    · simp [Builtin.delete_, run_underlying ht, MapKept.run_getObj_map hb, E.check w _ a, h1, MapKept.run_setObj_map _ hb, Result.andThen, setBlock]
    · have : delL l a = l := List.filter_eq_self.2 fun p hp => by
        simp only [Bool.not_eq_true', decide_eq_false_iff_not]
        intro e1
        have := hasL_iff.2 (e1 ▸ List.mem_map.2 ⟨p, hp, rfl⟩ : a ∈ l.map (·.1))
        rw [h2] at this
        cases this
      rw [this, hl]
  · have hjl : j < es.toList.length := (List.getElem?_eq_some_iff.1 h3).1
    have hjs : j < es.size := by simpa using hjl
    have hsub : (es.eraseIdxIfInBounds j).toList = es.toList.eraseIdx j := by
      unfold Array.eraseIdxIfInBounds
      rw [dif_pos hjs]
      simp
    refine ⟨_, ?_, key (es.eraseIdxIfInBounds j) clock (stamped_erase hs j) ?_⟩
    · simp [Builtin.delete_, run_underlying ht, MapKept.run_getObj_map hb, E.check w _ a, h1, MapKept.run_setObj_map _ hb, Result.andThen, setBlock]
    · rw [hsub, ChangeMaps.map_eraseIdx, hl, filter_one_out hn h6, ChangeMaps.map_eraseIdx]
variable {ops : Array Oper} {rest : List Oper} {o : Oper} {a : Act} {Q : Exit → Act → World → Prop}
theorem wp_mapUpdate_map {K' : Act → World → Prop} (h : Sep w (mapr ek ev b l :: rs)) (E : KeyEnc P k ek) (ht : P.underlying t = some (.map k e)) (m x v : Operand) (hop : o.op = Op.mapUpdate t m x v)
    (hm : a.eval m = .map (some b)) (key : K) (val : V) (hx : a.eval x = ek key) (hv : a.eval v = ev val)
    (hK : ∀ w', Sep w' (mapr ek ev b (putL l key val) :: rs) → K' (a.put o.dst undef) w') : o.wp P a w K' Q := by
  obtain ⟨w', hrun, r1⟩ := run_mapUpdate_map E ht h key val
  unfold Oper.wp
  simp [execOp, hop, hm, hx, hv, hrun, Result.andThen]
  exact hK w' r1
theorem wp_delete_map {K' : Act → World → Prop} (h : Sep w (mapr ek ev b l :: rs)) (E : KeyEnc P k ek) (ht : P.underlying t = some (.map k e)) (m x : Operand) (hop : o.op = Op.call { callee := Callee.builtin Builtin.delete, args := #[m, x], argTypes := #[t, k] })
    (hm : a.eval m = .map (some b)) (key : K) (hx : a.eval x = ek key)
    (hK : ∀ w', Sep w' (mapr ek ev b (delL l key) :: rs) → K' (a.put o.dst (.tuple #[])) w') : o.wp P a w K' Q := by
  obtain ⟨w', hrun, r1⟩ := run_delete_map E ht h key o.type
  unfold Oper.wp
  simp [execOp, hop, resolve, invoke, builtin, hm, hx, hrun, Result.andThen]
  exact hK w' r1
theorem wpList_lookup_map (h : Sep w (mapr ek ev b l :: rs)) (E : KeyEnc P k ek) (ht : P.underlying t = some (.map k e)) (hg : o.guard = none) (m x : Operand) (c : Bool) (hop : o.op = Op.lookup t m x c)
    {z : Value} (hz : (zeroValue e).run P w = .ok z w) (hm : a.eval m = .map (some b)) (key : K) (hx : a.eval x = ek key)
    (hK : wpList P ops Q rest (a.put o.dst (if c then .tuple #[((getL l key).map ev).getD z, .bool (hasL l key)] else ((getL l key).map ev).getD z)) w) : wpList P ops Q (o :: rest) a w := by
  refine wpList_plain hg fun K' hK' => ?_
  unfold Oper.wp
  simp only [execOp, hop, hm, hx, run_lookup_map E ht h hz, Result.andThen_ok, Sem.run_bind, Sem.run_pure]
  exact hK' _ _ hK
theorem wpList_mapUpdate_map (h : Sep w (mapr ek ev b l :: rs)) (E : KeyEnc P k ek) (ht : P.underlying t = some (.map k e)) (hg : o.guard = none) (m x v : Operand) (hop : o.op = Op.mapUpdate t m x v)
    (hm : a.eval m = .map (some b)) (key : K) (val : V) (hx : a.eval x = ek key) (hv : a.eval v = ev val)
    (hK : ∀ w', Sep w' (mapr ek ev b (putL l key val) :: rs) → wpList P ops Q rest (a.put o.dst undef) w') : wpList P ops Q (o :: rest) a w := by
  refine wpList_plain hg fun K' hK' => ?_
  obtain ⟨w', hrun, r1⟩ := run_mapUpdate_map E ht h key val
  unfold Oper.wp
  simp [execOp, hop, hm, hx, hv, hrun, Result.andThen]
  exact hK' _ _ (hK w' r1)
theorem wpList_delete_map (h : Sep w (mapr ek ev b l :: rs)) (E : KeyEnc P k ek) (ht : P.underlying t = some (.map k e)) (hg : o.guard = none) (m x : Operand) (hop : o.op = Op.call { callee := Callee.builtin Builtin.delete, args := #[m, x], argTypes := #[t, k] })
    (hm : a.eval m = .map (some b)) (key : K) (hx : a.eval x = ek key)
    (hK : ∀ w', Sep w' (mapr ek ev b (delL l key) :: rs) → wpList P ops Q rest (a.put o.dst (.tuple #[])) w') : wpList P ops Q (o :: rest) a w := by
  refine wpList_plain hg fun K' hK' => ?_
  obtain ⟨w', hrun, r1⟩ := run_delete_map E ht h key o.type
  unfold Oper.wp
  simp [execOp, hop, resolve, invoke, builtin, hm, hx, hrun, Result.andThen]
  exact hK' _ _ (hK w' r1)
end
end Go.Proofs.YtechagciefhpbaaDoor
