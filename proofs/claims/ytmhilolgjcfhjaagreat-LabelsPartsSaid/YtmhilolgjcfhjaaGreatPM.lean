/- What comes in, read out of a row. -/
import Derived.Test.YtmhilolgjcfhjaaGreatPA
import Derived.SizedLaws
import Derived.Deep.SlicePairs
import Derived.Deep.Strs
set_option linter.unusedVariables false
set_option linter.unusedSimpArgs false

/- What comes in, read out of a row: lists of labels, of matchers and of names, as plain lists; each text and each list within the machine's reach. -/
namespace Go.Proofs.YtmhilolgjcfhjaaGreat.X
open Go.ChangeShapes Go.WideShapes Go.Deep Go.RowKit Go.Proofs.YtmhilolgjcfhjaaGreatW.PrintWords

def InS (s : ByteArray) : Prop := s.size ≤ 140737488351232
def InL (l : List S47) : Prop := l.length * 32 ≤ 140737488351232 ∧ ∀ x ∈ l, InS x.f0 ∧ InS x.f1
def InM (l : List S35) : Prop := l.length * 48 ≤ 140737488351232 ∧ ∀ x ∈ l, InS x.f0 ∧ InS x.f1 ∧ InS x.f2
def InN (l : List ByteArray) : Prop := l.length * 16 ≤ 140737488351232 ∧ ∀ x ∈ l, InS x

theorem weights_all_mem {H : Type} {P : Program} {e : TypeId} : ∀ {ds : List (DataW H)} {d : DataW H}, d ∈ ds → ∀ n ∈ d.weights P e, n ∈ DataW.weightsAll P e ds
  | d0 :: ds, d, hd, n, hn => by
    rw [DataW.weightsAll, List.mem_append]
    rcases List.mem_cons.1 hd with rfl | hd
    · exact .inl hn
    · exact .inr (weights_all_mem hd n hn)
theorem weights_of {H : Type} {P : Program} {ts : List TypeId} {ds : List (DataW H)} (h : (DataW.weightsEach P ts ds).all (· ≤ reachBytes) = true) {j : Nat} {t : TypeId} {d : DataW H} (ht : ts[j]? = some t) (hd : ds[j]? = some d) : ∀ n ∈ d.weights P t, n ≤ reachBytes := by
  intro n hn
  have := List.all_eq_true.1 h _ (DataW.weights_mem_each ht hd n hn)
  simpa using this

section
variable {H : Type} {enc : TypeId × Value → H} {W : World} {base : Nat} {spare : Nat → Bool} {held : Bool} {a : Option Addr} {len cap : Nat} {d : DataW H} {ps : List MemPlace}

theorem open_labels (h : DataW.Trod enc Tryz.prog W base spare held 22 (.slice a len cap) d ps) (hsz : ∀ n ∈ d.weights Tryz.prog 22, n ≤ reachBytes) :
    ∃ l : List S47, l.length = len ∧ len ≤ cap ∧ Kd.C k47 W a l.length l ∧ InL l := by
  obtain ⟨fuel, hf⟩ := h
  rcases open_slice_pairs Tryz.underlying22 Tryz.underlying47 (by kernel_rfl) rfl rfl (by kernel_rfl) (by kernel_rfl) hf with ⟨hcs, _⟩ | ⟨ad, len', cap', m, n, V0, V1, D0, D1, P0, P1, hcs, _, hl, hm, hmm, hx, hcell⟩
  · simp [Value.cells] at hcs
    obtain ⟨rfl, rfl, rfl⟩ := hcs
    exact ⟨[], rfl, Nat.le_refl _, ⟨rfl, by decide, fun h => absurd h (by decide)⟩, by show 0 * 32 ≤ _; decide, fun x hx => by cases hx⟩
  · simp [Value.cells] at hcs
    obtain ⟨rfl, rfl, rfl⟩ := hcs
    have hlm : len ≤ m := by rw [hmm]; split <;> omega
    have each : ∀ i, i < m → ∃ q : ByteArray × ByteArray, V0 i = .string q.1 ∧ V1 i = .string q.2 ∧ D0 i = .lit (.string q.1.data.toList) ∧ D1 i = .lit (.string q.2.data.toList) := by
      intro i hi
      obtain ⟨_, _, h0, h1⟩ := hcell i hi
      obtain ⟨s0, e0, g0, _⟩ := DataW.trod_string Tryz.underlying9 h0
      obtain ⟨s1, e1, g1, _⟩ := DataW.trod_string Tryz.underlying9 h1
      simp only [Prod.mk.injEq] at g0 g1
      exact ⟨(s0, s1), by simpa using e0, by simpa using e1, g0.1, g1.1⟩
    obtain ⟨q, hq⟩ := choose_lt each
    obtain ⟨hd, _⟩ := Prod.mk.inj hx
    subst hd
    have hw : ∀ n, n ∈ (DataW.slice ((List.range len).map fun i => .agg [D0 i, D1 i]) ((List.range (m - len)).map fun j => .agg [D0 (len + j), D1 (len + j)]) : DataW H).weights Tryz.prog 22 → n ≤ reachBytes := hsz
    simp only [DataW.weights, Tryz.underlying22] at hw
    have hlen := hw _ List.mem_cons_self
    have hb47 : Tryz.prog.bytesOf 47 = 32 := by kernel_rfl
    rw [hb47] at hlen
    simp only [List.length_map, List.length_range] at hlen
    refine ⟨(List.range len).map fun i => ⟨(q i).1, (q i).2⟩, by simp, hl, ⟨rfl, by simp; have : maxLen = 9223372036854775807 := rfl; omega, fun _ => ⟨ad, rfl, fun j p hj => ?_⟩⟩, ?_, fun x hx => ?_⟩
    · rw [List.getElem?_map] at hj
      obtain ⟨i, hi, rfl⟩ := Option.map_eq_some_iff.1 hj
      obtain ⟨hi1, hi2⟩ := List.getElem?_eq_some_iff.1 hi
      rw [List.length_range] at hi1
      rw [List.getElem_range] at hi2
      subst hi2
      obtain ⟨c0, c1, _, _⟩ := hcell j (by omega)
      obtain ⟨e0, e1, _, _⟩ := hq j (by omega)
      refine ⟨_, rfl, k47_mk _ _, fun i u hu => ?_⟩
      match i, hu with
      | 0, hu => cases hu; rw [← e0]; exact c0
      | 1, hu => cases hu; rw [← e1, ← c1]; rfl
    · rw [List.length_map, List.length_range]
      have : reachBytes = 140737488351232 := rfl
      have : len ≤ len + (m - len) := by omega
      omega
    · obtain ⟨i, hi, rfl⟩ := List.mem_map.1 hx
      rw [List.mem_range] at hi
      obtain ⟨_, _, e0, e1⟩ := hq i (by omega)
      have hmem : (DataW.agg [D0 i, D1 i] : DataW H) ∈ (List.range len).map fun i => (DataW.agg [D0 i, D1 i] : DataW H) := List.mem_map.2 ⟨i, List.mem_range.2 hi, rfl⟩
      have hww : ∀ n ∈ (DataW.agg [D0 i, D1 i] : DataW H).weights Tryz.prog 47, n ≤ reachBytes := fun n hn => hw n (List.mem_cons_of_mem _ (List.mem_append_left _ (weights_all_mem hmem n hn)))
      simp [DataW.weights, DataW.weightsEach, Tryz.underlying47, e0, e1] at hww
      exact hww

theorem open_names (h : DataW.Trod enc Tryz.prog W base spare held 41 (.slice a len cap) d ps) (hsz : ∀ n ∈ d.weights Tryz.prog 41, n ≤ reachBytes) :
    ∃ l : List ByteArray, l.length = len ∧ len ≤ cap ∧ Kd.C Kd.string W a l.length l ∧ InN l := by
  obtain ⟨fuel, hf⟩ := h
  rcases open_strs Tryz.underlying41 Tryz.underlying9 (by kernel_rfl) hf with ⟨hcs, _⟩ | ⟨ad, len', cap', m, Sx, hcs, _, hl, hm, hmm, hx, hcell⟩
  · simp [Value.cells] at hcs
    obtain ⟨rfl, rfl, rfl⟩ := hcs
    exact ⟨[], rfl, Nat.le_refl _, ⟨rfl, by decide, fun h => absurd h (by decide)⟩, by show 0 * 16 ≤ _; decide, fun x hx => by cases hx⟩
  · simp [Value.cells] at hcs
    obtain ⟨rfl, rfl, rfl⟩ := hcs
    have hlm : len ≤ m := by rw [hmm]; split <;> omega
    obtain ⟨hd, _⟩ := Prod.mk.inj hx
    subst hd
    have hw : ∀ n, n ∈ (DataW.slice ((List.range len).map fun i => .lit (.string (Sx i).data.toList)) ((List.range (m - len)).map fun j => .lit (.string (Sx (len + j)).data.toList)) : DataW H).weights Tryz.prog 41 → n ≤ reachBytes := hsz
    simp only [DataW.weights, Tryz.underlying41] at hw
    have hlen := hw _ List.mem_cons_self
    have hb9 : Tryz.prog.bytesOf 9 = 16 := by kernel_rfl
    rw [hb9] at hlen
    simp only [List.length_map, List.length_range] at hlen
    refine ⟨(List.range len).map Sx, by simp, hl, ⟨rfl, by simp; have : maxLen = 9223372036854775807 := rfl; omega, fun _ => ⟨ad, rfl, fun j p hj => ?_⟩⟩, ?_, fun x hx => ?_⟩
    · rw [List.getElem?_map] at hj
      obtain ⟨i, hi, rfl⟩ := Option.map_eq_some_iff.1 hj
      obtain ⟨hi1, hi2⟩ := List.getElem?_eq_some_iff.1 hi
      rw [List.length_range] at hi1
      rw [List.getElem_range] at hi2
      subst hi2
      obtain ⟨c0, _⟩ := hcell j (by omega)
      refine ⟨[.string (Sx j)], rfl, rfl, fun i u hu => ?_⟩
      match i, hu with
      | 0, hu => cases hu; show W.cell? (ad.add (j * 1 + 0)) = _; rw [Nat.mul_one]; exact c0
    · rw [List.length_map, List.length_range]
      have : reachBytes = 140737488351232 := rfl
      have : len ≤ len + (m - len) := by omega
      omega
    · obtain ⟨i, hi, rfl⟩ := List.mem_map.1 hx
      have hmem : (DataW.lit (.string (Sx i).data.toList) : DataW H) ∈ (List.range len).map fun i => (DataW.lit (.string (Sx i).data.toList) : DataW H) := List.mem_map.2 ⟨i, hi, rfl⟩
      have hww : ∀ n ∈ (DataW.lit (.string (Sx i).data.toList) : DataW H).weights Tryz.prog 9, n ≤ reachBytes := fun n hn => hw n (List.mem_cons_of_mem _ (List.mem_append_left _ (weights_all_mem hmem n hn)))
      simp [DataW.weights] at hww
      exact hww

theorem open_matchers (h : DataW.Trod enc Tryz.prog W base spare held 33 (.slice a len cap) d ps) (hsz : ∀ n ∈ d.weights Tryz.prog 33, n ≤ reachBytes) :
    ∃ l : List S35, l.length = len ∧ len ≤ cap ∧ Kd.C k35 W a l.length l ∧ InM l := by
  obtain ⟨fuel, hf⟩ := h
  rcases open_slice Tryz.underlying33 hf with ⟨hcs, _⟩ | ⟨ad, len', cap', m, n, D, Pl, hcs, _, hl, hm, hmm, hx, hcell⟩
  · simp [Value.cells] at hcs
    obtain ⟨rfl, rfl, rfl⟩ := hcs
    exact ⟨[], rfl, Nat.le_refl _, ⟨rfl, by decide, fun h => absurd h (by decide)⟩, by show 0 * 48 ≤ _; decide, fun x hx => by cases hx⟩
  · simp [Value.cells] at hcs
    obtain ⟨rfl, rfl, rfl⟩ := hcs
    have hlm : len ≤ m := by rw [hmm]; split <;> omega
    have c35 : Tryz.prog.cellsOf 35 = 3 := by kernel_rfl
    have c9 : Tryz.prog.cellsOf 9 = 1 := by kernel_rfl
    have each : ∀ i, i < m → ∃ q : S35, W.cell? (ad.add (i * 3)) = some (.string q.f0) ∧ W.cell? (ad.add (i * 3 + 1)) = some (.string q.f1) ∧ W.cell? (ad.add (i * 3 + 2)) = some (.string q.f2) ∧
        D i = .agg [.lit (.string q.f0.data.toList), .lit (.string q.f1.data.toList), .lit (.string q.f2.data.toList)] := by
      intro i hi
      obtain ⟨cs', h1, h2⟩ := hcell i hi
      rw [c35] at h1
      obtain ⟨_, hlen, hcells⟩ := World.cells?_some h1
      obtain ⟨y0, y1, y2, k, hk, _, g0, g1, g2⟩ := trod_struct3 Tryz.underlying35 h2
      rw [c9] at g0 g1 g2
      match cs', hlen with
      | [v0, v1, v2], _ =>
        simp only [List.drop_zero, List.take_succ_cons, List.take_zero, List.drop_succ_cons] at g0 g1 g2
        obtain ⟨s0, e0, p0, _⟩ := DataW.trod_string Tryz.underlying9 g0
        obtain ⟨s1, e1, p1, _⟩ := DataW.trod_string Tryz.underlying9 g1
        obtain ⟨s2, e2, p2, _⟩ := DataW.trod_string Tryz.underlying9 g2
        have b0 := hcells 0 (by omega)
        have b1 := hcells 1 (by omega)
        have b2 := hcells 2 (by omega)
        rw [Deep.add_add] at b0 b1 b2
        simp only [List.cons.injEq, and_true] at e0 e1 e2
        subst e0; subst e1; subst e2; subst p0; subst p1; subst p2
        simp only [Prod.mk.injEq] at hk
        exact ⟨⟨s0, s1, s2⟩, by simpa using b0, by simpa using b1, by simpa using b2, hk.1⟩
    haveI : Inhabited S35 := ⟨z35⟩
    obtain ⟨q, hq⟩ := choose_lt each
    obtain ⟨hd, _⟩ := Prod.mk.inj hx
    subst hd
    have hw := hsz
    simp only [DataW.weights, Tryz.underlying33] at hw
    have hlen := hw _ List.mem_cons_self
    have hb35 : Tryz.prog.bytesOf 35 = 48 := by kernel_rfl
    rw [hb35] at hlen
    simp only [List.length_map, List.length_range] at hlen
    refine ⟨(List.range len).map q, by simp, hl, ⟨rfl, by simp; have : maxLen = 9223372036854775807 := rfl; omega, fun _ => ⟨ad, rfl, fun j p hj => ?_⟩⟩, ?_, fun x hx => ?_⟩
    · rw [List.getElem?_map] at hj
      obtain ⟨i, hi, rfl⟩ := Option.map_eq_some_iff.1 hj
      obtain ⟨hi1, hi2⟩ := List.getElem?_eq_some_iff.1 hi
      rw [List.length_range] at hi1
      rw [List.getElem_range] at hi2
      subst hi2
      obtain ⟨b0, b1, b2, _⟩ := hq j (by omega)
      refine ⟨_, rfl, k35_mk _ _, fun i u hu => ?_⟩
      match i, hu with
      | 0, hu => cases hu; exact b0
      | 1, hu => cases hu; exact b1
      | 2, hu => cases hu; exact b2
    · rw [List.length_map, List.length_range]
      have : reachBytes = 140737488351232 := rfl
      have : len ≤ len + (m - len) := by omega
      omega
    · obtain ⟨i, hi, rfl⟩ := List.mem_map.1 hx
      have hil := List.mem_range.1 hi
      obtain ⟨_, _, _, e⟩ := hq i (by omega)
      have hmem : D i ∈ (List.range len).map D := List.mem_map.2 ⟨i, hi, rfl⟩
      have hww : ∀ n ∈ (D i).weights Tryz.prog 35, n ≤ reachBytes := fun n hn => hw n (List.mem_cons_of_mem _ (List.mem_append_left _ (weights_all_mem hmem n hn)))
      rw [e] at hww
      simp [DataW.weights, DataW.weightsEach, Tryz.underlying35] at hww
      exact hww
end
end Go.Proofs.YtmhilolgjcfhjaaGreat.X
