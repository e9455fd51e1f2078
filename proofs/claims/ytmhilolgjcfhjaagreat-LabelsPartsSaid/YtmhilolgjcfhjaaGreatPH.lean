/- labels.Only, Without, Match: what they answer in plain Lean. -/
import Derived.Test.YtmhilolgjcfhjaaGreatPA
import Derived.Lib.SliceRun
import Derived.Shelf.Abstract
import Derived.Lib.QuietBelow
set_option linter.unusedVariables false
set_option linter.unusedSimpArgs false

/- slices.DeleteFunc at labels, in a row of the call's own: those that the predicate lets stand, in their order. -/
namespace Go.Proofs.YtmhilolgjcfhjaaGreat.X
open Go.RowKit Go.Proofs.YtmhilolgjcfhjaaGreatW.PrintWords Go.Proofs.YtmhilolgjcfhjaaGreatW.PrintLast Go.Proofs.YtmhilolgjcfhjaaGreatW.PrintMore

theorem SRow.clear {w0 : World} {g : Nat} {tl : List Value} : ∀ (k i : Nat) (d : Array S47) (W : World), SRow w0 g tl d W → i + k ≤ d.size →
    ∃ d', SRow w0 g tl d' (W.setCells g (i * 2) (List.replicate (k * 2) (.string ⟨#[]⟩))) ∧ d'.size = d.size ∧ ∀ j, j < i → d'[j]! = d[j]!
  | 0, i, d, W, h, hk => ⟨d, h, rfl, fun _ _ => rfl⟩
  | k + 1, i, d, W, h, hk => by
    obtain ⟨d', h1, h2, h3⟩ := SRow.clear k (i + 1) _ _ (h.store i (by omega) z47) (by simp; omega)
    refine ⟨d', ?_, by rw [h2]; simp, fun j hj => ?_⟩
    · have e : List.replicate ((k + 1) * 2) (Value.string ⟨#[]⟩) = .string ⟨#[]⟩ :: .string ⟨#[]⟩ :: List.replicate (k * 2) (.string ⟨#[]⟩) := by
        rw [show (k + 1) * 2 = k * 2 + 1 + 1 by omega, List.replicate_succ, List.replicate_succ]
      rw [e]
      rw [show (i + 1) * 2 = i * 2 + 1 + 1 by omega] at h1
      exact h1
    · rw [h3 j (by omega)]
      by_cases hd : j < d.size
      · rw [getElem!_pos _ j (by simpa using hd), getElem!_pos d j hd, Array.getElem_setIfInBounds]
        · rw [if_neg (by omega)]
      · omega
theorem run_clear47 (W : World) (ty : TypeId) (b o n c : Nat) (hn : 0 < n)
    (hc : ∀ j, j < n * 2 → (W.cell? ⟨b, o + j, none⟩).isSome = true) (hf : ∀ j, j < n * 2 → W.frozen? ⟨b, o + j, none⟩ = false) :
    (Builtin.clear_ #[22] ty #[.slice (some ⟨b, o, none⟩) n c]).run Tryz.prog W = .ok (.tuple #[]) (W.setCells b o (List.replicate (n * 2) (.string ⟨#[]⟩))) := by
  have hz : ∀ W, (zeroValue 47).run Tryz.prog W = .ok (.agg #[.string ⟨#[]⟩, .string ⟨#[]⟩]) W := fun _ => by kernel_rfl
  have hzc : (Builtin.zeroCells (Value.agg #[.string ⟨#[]⟩, .string ⟨#[]⟩]).cells n).toList = List.replicate (n * 2) (.string ⟨#[]⟩) := by
    apply List.ext_getElem
    · simp [Builtin.zeroCells, Value.cells]
    · intro i h1 h2
      have : i % 2 = 0 ∨ i % 2 = 1 := by omega
      rcases this with h | h <;> simp [Builtin.zeroCells, Value.cells, h]
  have hst := run_storeCells_cells (P := Tryz.prog) b o (List.replicate (n * 2) (.string ⟨#[]⟩)) 0 W (by simpa using hc) (by simpa using hf) (by intro v hv'; rw [List.eq_of_mem_replicate hv']; rfl)
  simp only [Nat.add_zero] at hst
  obtain ⟨m, rfl⟩ : ∃ m, n = m + 1 := ⟨n - 1, by omega⟩
  simp [Builtin.clear_, run_underlying Tryz.underlying22, hz, hzc, hst]

/-- What DeleteFunc hands back: the row cut to those that stand. -/
def DelPost (w0 : World) (g cap : Nat) (tl : List Value) (l r : List S47) (e : Ending) (w' : World) : Prop :=
  e = .returned (.slice (some ⟨g, 0, none⟩) r.length cap) ∧ ∃ d : Array S47, SRow w0 g tl d w' ∧ d.size = l.length ∧ d.toList.take r.length = r
/-- How far it has come: i stand of the first j. -/
structure DelInv (p : S47 → Bool) (l : List S47) (i j : Nat) (d : Array S47) : Prop where
  size : d.size = l.length
  lt : i < j
  le : j ≤ l.length
  len : i = ((l.take j).filter (fun x => !p x)).length
  head : d.toList.take i = (l.take j).filter (fun x => !p x)
  high : ∀ k, j ≤ k → d[k]! = l.toArray[k]!
theorem DelInv.start (p : S47 → Bool) (l : List S47) (i : Nat) (hi : i < l.length) (ha : ∀ k, (h : k < i) → p l[k] = false) (hq : p l[i] = true) : DelInv p l i (i + 1) l.toArray := by
  have hf : (l.take (i + 1)).filter (fun x => !p x) = l.take i := by
    rw [List.take_succ_eq_append_getElem hi, List.filter_append, List.filter_eq_self.2, List.filter_cons_of_neg (by simp [hq])]
    · simp
    · intro x hx
      obtain ⟨k, hk, rfl⟩ := List.getElem_of_mem hx
      simp only [List.length_take] at hk
      rw [List.getElem_take]
      simp [ha k (by omega)]
  exact ⟨by simp, by omega, by omega, by rw [hf]; simp; omega, by rw [hf], fun _ _ => rfl⟩
theorem DelInv.skip {p : S47 → Bool} {l : List S47} {i j : Nat} {d : Array S47} (h : DelInv p l i j d) (hj : j < l.length) (hq : p l[j] = true) : DelInv p l i (j + 1) d := by
  have hf : (l.take (j + 1)).filter (fun x => !p x) = (l.take j).filter (fun x => !p x) := by
    rw [List.take_succ_eq_append_getElem hj, List.filter_append, List.filter_cons_of_neg (by simp [hq])]; simp
  exact ⟨h.size, by have := h.lt; omega, by omega, by rw [hf]; exact h.len, by rw [hf]; exact h.head, fun k hk => h.high k (by omega)⟩
theorem DelInv.keep {p : S47 → Bool} {l : List S47} {i j : Nat} {d : Array S47} (h : DelInv p l i j d) (hj : j < l.length) (hq : p l[j] = false) : DelInv p l (i + 1) (j + 1) (d.setIfInBounds i l[j]) := by
  have hf : (l.take (j + 1)).filter (fun x => !p x) = (l.take j).filter (fun x => !p x) ++ [l[j]] := by
    rw [List.take_succ_eq_append_getElem hj, List.filter_append, List.filter_cons_of_pos (by simp [hq])]; simp
  have hlt := h.lt
  have hi : i < d.size := by rw [h.size]; omega
  refine ⟨by rw [Array.size_setIfInBounds]; exact h.size, by omega, by omega, by rw [hf, List.length_append, ← h.len]; rfl, ?_, fun k hk => ?_⟩
  · rw [hf, Array.toList_setIfInBounds, List.take_succ_eq_append_getElem (by simpa using hi)]
    rw [List.take_set_of_le (by omega), h.head, List.getElem_set_self]
  · rw [← h.high k (by omega)]
    by_cases hd : k < d.size
    · rw [getElem!_pos _ k (by simpa using hd), getElem!_pos d k hd, Array.getElem_setIfInBounds]
      rw [if_neg (by omega)]
    · rw [getElem!_neg _ k (by simpa using hd), getElem!_neg d k hd]

/-- What is asked of the predicate: in every world in which what lay in w lies unturned it answers p, and turns nothing. -/
def PS47 (g : Nat) (lb : Array Value) (p : S47 → Bool) (l : List S47) (w : World) : Prop :=
  ∀ (W : World) (x : S47), x ∈ l → Below w.heap.size w W → Calls Tryz.prog g (#[enc47 x] ++ lb) W fun e w' => e = .returned (.bool (p x)) ∧ Below W.heap.size W w'
theorem idx_pos (p : S47 → Bool) (l : List S47) (h : idxOf p l ≠ -1) : ∃ i : Nat, idxOf p l = i ∧ ∃ hi : i < l.length, (∀ k, (h : k < i) → p l[k] = false) ∧ p l[i] = true := by
  unfold idxOf at h ⊢
  cases hf : l.findIdx? p with
  | none => rw [hf] at h; exact absurd rfl h
  | some i =>
    rw [List.findIdx?_eq_some_iff_getElem] at hf
    obtain ⟨hi, h1, h2⟩ := hf
    exact ⟨i, rfl, hi, fun k hk => by have := h2 k hk; simpa using this, h1⟩
theorem idx_neg (p : S47 → Bool) (l : List S47) (h : idxOf p l = -1) : (l.filter fun x => !p x) = l := by
  unfold idxOf at h
  cases hf : l.findIdx? p with
  | none => rw [List.findIdx?_eq_none_iff] at hf; exact List.filter_eq_self.2 fun x hx => by simp [hf x hx]
  | some i => rw [hf] at h; simp at h

set_option maxHeartbeats 2000000 in
set_option maxRecDepth 100000 in
theorem delFunc (p : S47 → Bool) (q : Nat) (lb : Array Value) (eg : ∀ args w, (callFunc q args).run Tryz.prog w = .ok (.enter q args) w) (w0 : World) (l : List S47) (hp : PS47 q lb p l w0)
    (W : World) (hB : Below w0.heap.size w0 W) (g cap : Nat) (tl : List Value) (hg : w0.heap.size ≤ g) (hc : l.length ≤ cap) (hm : cap ≤ maxLen) (hn : l.length < 4398046511104) (hC : Kd.C k47 W (some ⟨g, 0, none⟩) l.length l) (hs : SRow W g tl l.toArray W) :
    Calls Tryz.prog 48 #[.slice (some ⟨g, 0, none⟩) l.length cap, .func (.func q) #[] lb] W (DelPost W g cap tl l (l.filter fun x => !p x)) := by
  have hu47 := Tryz.underlying47
  have HI := Aside0.mk (idx47 p q lb eg (some ⟨g, 0, none⟩) cap l W hC hc (by omega) (fun W' x hx hb => (hp W' x hx (hB.trans (hb.mono hB.size))).mono fun e w' ⟨he, h⟩ => ⟨he, hb.trans (h.mono hb.size)⟩))
  have HS := Aside0.mk hs
  have HPS := Aside0.mk (fun (W' : World) (D : Array S47) (hd : SRow W g tl D W') x (hx : x ∈ l) => hp W' x hx (row_below hd hB hg))
  have HCAP := Aside0.mk hc
  have HMAX := Aside0.mk hm
  clear hp hB hC hs
  by_cases hneg : idxOf p l = -1
  · have HF := Aside0.mk (idx_neg p l hneg)
    rw [hneg] at HI
    clear hneg
    go_enter Tryz.func48, Tryz.ntmps48
    go_wp2_with (go_at_call 51; refine HI.out.mono ?_; clear HI; rintro e w1 ⟨rfl, hb1⟩)
    go_ret
    refine ⟨by rw [HF.out]; rfl, l.toArray, HS.out.below hb1, by simp, by rw [HF.out]; simp⟩
  · obtain ⟨i0, hi0, hil, ha, hq⟩ := idx_pos p l hneg
    rw [hi0] at HI
    have HST := Aside0.mk (DelInv.start p l i0 hil ha hq)
    have hne : ((i0 : Int) == -1) = false := beq_eq_false_iff_ne.2 (by omega)
    clear hneg hi0 ha hq
    go_enter Tryz.func48, Tryz.ntmps48
    go_wp2_with (go_at_call 51; refine HI.out.mono ?_; clear HI; rintro e w1 ⟨rfl, hb1⟩)
    go_loopg [5, 6, 7] l.length (fun gg v5 v6 _ wr => ∃ (i j : Nat) (D : Array S47), v5 = .int .i64 i ∧ v6 = .int .i64 j ∧ j ≤ l.length ∧ i < j ∧ Aside0 (l.length - j ≤ gg) ∧ Aside0 (SRow W g tl D wr) ∧ Aside0 (DelInv p l i j D))
    case atStart => exact ⟨i0, i0 + 1, l.toArray, rfl, by go_num, by omega, by omega, ⟨by omega⟩, ⟨HS.out.below hb1⟩, HST⟩
    case round =>
      obtain ⟨i, j, D, rfl, rfl, hj, hij, HG, HR, HV⟩ := hrel
      have hG := HG.out
      have hsz := HV.out.size
      by_cases hlt : j < l.length
      · obtain ⟨h1, h2⟩ := HR.out.cells j (by omega)
        have hx : D[j]! = l[j] := by rw [HV.out.high j (Nat.le_refl _), getElem!_pos _ j (by simpa using hlt)]; simp
        rw [hx] at h1 h2
        have hmem : l[j] ∈ l := List.getElem_mem hlt
        have hltz : (j : Int) < (l.length : Int) := by omega
        have HRA := Aside0.mk (HR.out.below ((Below.refl _ wr).alloc (Nat.le_refl _) (.cells #[.string (l[j]).f0, .string (l[j]).f1] 47)))
        have hcall := Aside0.mk (HPS.out _ D HRA.out l[j] hmem)
        have HK := Aside0.mk (fun (h : p l[j] = false) => HV.out.keep hlt h)
        have HSK := Aside0.mk (fun (h : p l[j] = true) => HV.out.skip hlt h)
        clear hx hmem hsz
        generalize l[j] = x at h1 h2 hcall HRA HK HSK
        cases hq : p x with
        | true =>
          rw [hq] at hcall
          have HD := Aside0.mk (HSK.out hq)
          clear hq HK HSK
          go_wp2_with (go_at_fn q; refine hcall.out.mono ?_; clear hcall; rintro e w2 ⟨rfl, hb2⟩)
          go_roundg (l.length - (j + 1))
          case measure => omega
          case rel => exact ⟨i, j + 1, D, rfl, by go_num, by omega, by omega, ⟨Nat.le_refl _⟩, ⟨HRA.out.below hb2⟩, HD⟩
        | false =>
          rw [hq] at hcall
          have HD := Aside0.mk (HK.out hq)
          clear hq HK HSK
          have hi2 : i < l.length := by omega
          have hiz : (i : Int) < (l.length : Int) := by omega
          have HZ := Aside0.mk HV.out.size
          go_wp2_with (go_at_fn q; refine hcall.out.mono ?_; clear hcall; rintro e w2 ⟨rfl, hb2⟩; have HR2 := HRA.out.below hb2; have hcc : ∀ o, w2.cell? ⟨wr.heap.size, o, none⟩ = (wr.alloc (.cells #[.string x.f0, .string x.f1] 47)).cell? ⟨wr.heap.size, o, none⟩ := (fun o => hb2.cell (p := ⟨wr.heap.size, o, none⟩) (by simp)); have ⟨c1, c2⟩ := HR2.cells i (by rw [HZ.out]; exact hi2); have hfz : (∀ j, w2.frozen? ⟨g, j, none⟩ = false) := fun j => HR2.frozen j; have HRS := Aside0.mk (HR2.store i (by rw [HZ.out]; exact hi2) x); clear HR2)
          go_roundg (l.length - (j + 1))
          case measure => omega
          case rel => exact ⟨i + 1, j + 1, _, by go_num, by go_num, by omega, by omega, ⟨Nat.le_refl _⟩, ⟨HRS.out⟩, HD⟩
      · obtain rfl : j = l.length := by omega
        have hcells := fun k (hk : k < D.size) => HR.out.cells k hk
        have hcl : ∀ ty, (Builtin.clear_ #[22] ty #[.slice (some ⟨g, i * 2, none⟩) (l.length - i) (cap - i)]).run Tryz.prog wr = .ok (.tuple #[]) (wr.setCells g (i * 2) (List.replicate ((l.length - i) * 2) (.string ⟨#[]⟩))) := fun ty =>
          run_clear47 wr ty g (i * 2) (l.length - i) (cap - i) (by omega) (fun t ht => by
            rcases Nat.mod_two_eq_zero_or_one t with h | h
            · rw [show i * 2 + t = (i + t / 2) * 2 by omega, (hcells (i + t / 2) (by omega)).1]; rfl
            · rw [show i * 2 + t = (i + t / 2) * 2 + 1 by omega, (hcells (i + t / 2) (by omega)).2]; rfl) (fun t ht => HR.out.frozen _)
        obtain ⟨D2, e1, e2, e3⟩ := SRow.clear (l.length - i) i D wr HR.out (by omega)
        have HRC := Aside0.mk e1
        have HLEN := Aside0.mk (show i = (l.filter fun x => !p x).length by have := HV.out.len; rwa [List.take_length] at this)
        have HTK := Aside0.mk (show D2.toList.take i = l.filter fun x => !p x by
          have h := HV.out.head
          rw [List.take_length] at h
          rw [← h]
          apply List.ext_getElem
          · simp; omega
          · intro k h1 h2
            have hk : k < i := by simp at h1; omega
            have := e3 k hk
            rw [getElem!_pos D2 k (by omega), getElem!_pos D k (by omega)] at this
            simpa using this)
        have HZ2 := Aside0.mk (show D2.size = l.length by omega)
        have hic : i ≤ cap := by have := HCAP.out; omega
        have hil2 : i < l.length := hij
        have hin : (i : Int) ≤ (l.length : Int) := by omega
        have hcapz : (l.length : Int) ≤ (cap : Int) := by have := HCAP.out; omega
        have hcap2 : l.length ≤ cap := HCAP.out
        have hlz : ¬ (l.length : Int) < (l.length : Int) := by omega
        clear hcells e1 e2 e3 hlt hsz
        go_wp2
        go_ret
        refine ⟨by rw [← HLEN.out]; rfl, D2, HRC.out, HZ2.out, by rw [← HLEN.out]; exact HTK.out⟩
end Go.Proofs.YtmhilolgjcfhjaaGreat.X

namespace Go.Proofs.YtmhilolgjcfhjaaGreat.X
open Go.RowKit Go.Proofs.YtmhilolgjcfhjaaGreatW.PrintWords Go.Proofs.YtmhilolgjcfhjaaGreatW.PrintLast Go.Proofs.YtmhilolgjcfhjaaGreatW.PrintMore
attribute [local go_sem] max2_int min2_int max_two min_two max_three min_three max_four min_four   -- for this text's walks alone
set_option linter.unusedVariables false
set_option linter.unusedSimpArgs false

/-! ### slices_Index_string_string: function 62 -/
def slices_Index_string_string.l0 : Nat → List ByteArray → ByteArray → Int → Int → Option (Int)
  | 0, _, _, _, _ => none
  | k + 1, x0, x1, x7, x8 => if x8 < x7 then (if 0 ≤ x8 then (if x8 < (x0.length : Int) then (if x1.toList = (rdOf ByteArray.empty x0 x8).toList then (some x8) else (slices_Index_string_string.l0 k x0 x1 x7 (wrap64 (x8 + 1)))) else (none)) else (none)) else (some (-1))
def slices_Index_string_string.f (k : Nat) (l0 : List ByteArray) (a1 : ByteArray) : Option (Int) := slices_Index_string_string.l0 k l0 a1 (l0.length : Int) 0
theorem slices_Index_string_string.mono_l : ∀ k, (∀ y0 y1 y2 y3, LeO (slices_Index_string_string.l0 k y0 y1 y2 y3) (slices_Index_string_string.l0 (k + 1) y0 y1 y2 y3))
  | 0 => fun _ _ _ _ r h => by simp [slices_Index_string_string.l0] at h
  | k + 1 => by
    have ih0 := slices_Index_string_string.mono_l k
    · intro y0 y1 y2 y3
      unfold slices_Index_string_string.l0
      repeat' first
      | (with_reducible exact ih0 _ _ _ _)
      | (with_reducible exact LeO.refl _)
      | (with_reducible exact LeO.none _)
      | (with_reducible refine LeO.ite ?_ ?_)
      | (with_reducible refine LeO.bind ?_ (fun _ => ?_))
      | exact ih0 _ _ _ _
      | exact LeO.none _
      | refine LeO.ite ?_ ?_
      | refine LeO.bind ?_ (fun _ => ?_)
theorem slices_Index_string_string.mono : ∀ a0 a1 k, LeO (slices_Index_string_string.f k a0 a1) (slices_Index_string_string.f (k + 1) a0 a1) := by
  intro a0 a1 k
  have ih0 := slices_Index_string_string.mono_l k
  unfold slices_Index_string_string.f
  repeat' first
      | (with_reducible exact ih0 _ _ _ _)
      | (with_reducible exact LeO.refl _)
      | (with_reducible exact LeO.none _)
      | (with_reducible refine LeO.ite ?_ ?_)
      | (with_reducible refine LeO.bind ?_ (fun _ => ?_))
      | exact ih0 _ _ _ _
      | exact LeO.none _
      | refine LeO.ite ?_ ?_
      | refine LeO.bind ?_ (fun _ => ?_)
set_option maxHeartbeats 8000000 in
set_option maxRecDepth 100000 in
theorem slices_Index_string_string.calls (k : Nat) (A0 : Option Addr) (c0 : Nat) (l0 : List ByteArray) (a1 : ByteArray) (r : Int) (w : World) (hr0 : Kd.C Kd.string w A0 l0.length l0) (hc0 : l0.length ≤ c0) (h : slices_Index_string_string.f k l0 a1 = some r) :
    Calls Tryz.prog 62 #[.slice A0 l0.length c0, .string a1] w fun e w' => e = .returned (.int .i64 r) ∧ Drawn0 w w' := by
  have HR0 := Aside0.mk hr0
  have HC0 := Aside0.mk hc0
  clear hr0 hc0
  have H : (slices_Index_string_string.l0 k l0 a1 (l0.length : Int) 0) = some r := h
  clear h
  have H' := Aside0.mk H
  clear H
  go_enter Tryz.func62, Tryz.ntmps62
  go_wp2
  go_loopg [8] k (fun kq v8 w' => ∃ (x8_1 : Int), v8 = .int .i64 x8_1 ∧ Aside0 (slices_Index_string_string.l0 kq l0 a1 (l0.length : Int) x8_1 = some r) ∧ Aside0 (kq ≤ k) ∧ Drawn0 w w')
  case atStart => exact ⟨(0), (by first | rfl | (simp; done) | (simp [*]; done)), H', ⟨Nat.le_refl _⟩, by repeat (first | exact Drawn0.refl _ | apply Drawn0.step)⟩
  case round =>
    clear H'
    try clear p2
    obtain ⟨x8_1, rfl, HA, HK1, ⟨m1, rfl⟩⟩ := hrel
    cases gk with
    | zero => exact absurd HA.out (by simp [slices_Index_string_string.l0])
    | succ k1 =>
      have H := HA.out
      clear HA
      simp only [slices_Index_string_string.l0] at H
      by_cases c3 : x8_1 < (l0.length : Int)
      · rw [if_pos c3] at H
        have c3b0 : decide (x8_1 < (l0.length : Int)) = true := decide_eq_true c3
        clear c3
        by_cases c4 : 0 ≤ x8_1
        · rw [if_pos c4] at H
          have c4b0 : decide (0 ≤ x8_1) = true := decide_eq_true c4
          clear c4
          by_cases c5 : x8_1 < (l0.length : Int)
          · rw [if_pos c5] at H
            have c5b0 : decide (x8_1 < (l0.length : Int)) = true := decide_eq_true c5
            clear c5
            by_cases c6 : a1.toList = (rdOf ByteArray.empty l0 x8_1).toList
            · rw [if_pos c6] at H
              have c6b0 : (a1.toList == (rdOf ByteArray.empty l0 x8_1).toList) = true := beq_iff_eq.mpr c6
              have c6b1 : (a1.toList != (rdOf ByteArray.empty l0 x8_1).toList) = false := bne_eq_false_iff_eq.mpr c6
              clear c6
              obtain rfl := Option.some.inj H
              have p105 : 0 ≤ (x8_1 : Int) := of_decide_eq_true (by first | (with_reducible assumption) | assumption)
              have q105 : x8_1 < (l0.length : Int) := of_decide_eq_true (by first | (with_reducible assumption) | assumption)
              obtain ⟨ad105, e105, hx105_0⟩ := Kd.at_string HR0.out x8_1 p105 q105
              cases e105
              replace p105 := eq_true p105
              replace q105 := eq_true q105
              go_wp2
              go_ret
              exact ⟨by first | rfl | (simp; done) | (simp [*]; done), by repeat (first | exact Drawn0.refl _ | apply Drawn0.step)⟩
            · rw [if_neg c6] at H
              have c6b0 : (a1.toList == (rdOf ByteArray.empty l0 x8_1).toList) = false := beq_eq_false_iff_ne.mpr c6
              have c6b1 : (a1.toList != (rdOf ByteArray.empty l0 x8_1).toList) = true := bne_iff_ne.mpr c6
              have H' := Aside0.mk H
              clear H
              have p105 : 0 ≤ (x8_1 : Int) := of_decide_eq_true (by first | (with_reducible assumption) | assumption)
              have q105 : x8_1 < (l0.length : Int) := of_decide_eq_true (by first | (with_reducible assumption) | assumption)
              obtain ⟨ad105, e105, hx105_0⟩ := Kd.at_string HR0.out x8_1 p105 q105
              cases e105
              replace p105 := eq_true p105
              replace q105 := eq_true q105
              go_wp2
              go_roundg k1
              case measure => have := HK1.out; omega
              case rel => exact ⟨(wrap64 (x8_1 + 1)), (by first | rfl | (simp; done) | (simp [*]; done)), H', ⟨by have := HK1.out; omega⟩, by repeat (first | exact Drawn0.refl _ | apply Drawn0.step)⟩
          · rw [if_neg c5] at H
            exact absurd H (by simp)
        · rw [if_neg c4] at H
          exact absurd H (by simp)
      · rw [if_neg c3] at H
        have c3b0 : decide (x8_1 < (l0.length : Int)) = false := decide_eq_false c3
        clear c3
        obtain rfl := Option.some.inj H
        go_wp2
        go_ret
        exact ⟨by first | rfl | (simp; done) | (simp [*]; done), by repeat (first | exact Drawn0.refl _ | apply Drawn0.step)⟩

end Go.Proofs.YtmhilolgjcfhjaaGreat.X

namespace Go.Proofs.YtmhilolgjcfhjaaGreat.X
open Go.RowKit Go.Proofs.YtmhilolgjcfhjaaGreatW.PrintWords Go.Proofs.YtmhilolgjcfhjaaGreatW.PrintLast Go.Proofs.YtmhilolgjcfhjaaGreatW.PrintMore
attribute [local go_sem] max2_int min2_int max_two min_two max_three min_three max_four min_four   -- for this text's walks alone
set_option linter.unusedVariables false
set_option linter.unusedSimpArgs false

/-! ### slices_Contains_string_string: function 43 -/
def slices_Contains_string_string.f (k : Nat) (l0 : List ByteArray) (a1 : ByteArray) : Option (Bool) := (slices_Index_string_string.f k l0 a1).bind fun t106 => (some (decide (t106 ≥ 0)))
theorem slices_Contains_string_string.mono : ∀ a0 a1 k, LeO (slices_Contains_string_string.f k a0 a1) (slices_Contains_string_string.f (k + 1) a0 a1) := by
  intro a0 a1 k
  unfold slices_Contains_string_string.f
  repeat' first
      | (with_reducible exact slices_Index_string_string.mono _ _ _)
      | (with_reducible exact LeO.refl _)
      | (with_reducible exact LeO.none _)
      | (with_reducible refine LeO.ite ?_ ?_)
      | (with_reducible refine LeO.bind ?_ (fun _ => ?_))
      | exact slices_Index_string_string.mono _ _ _
      | exact LeO.none _
      | refine LeO.ite ?_ ?_
      | refine LeO.bind ?_ (fun _ => ?_)
set_option maxHeartbeats 8000000 in
set_option maxRecDepth 100000 in
theorem slices_Contains_string_string.calls (k : Nat) (A0 : Option Addr) (c0 : Nat) (l0 : List ByteArray) (a1 : ByteArray) (r : Bool) (w : World) (hr0 : Kd.C Kd.string w A0 l0.length l0) (hc0 : l0.length ≤ c0) (h : slices_Contains_string_string.f k l0 a1 = some r) :
    Calls Tryz.prog 43 #[.slice A0 l0.length c0, .string a1] w fun e w' => e = .returned (.bool r) ∧ Drawn0 w w' := by
  have HR0 := Aside0.mk hr0
  have HC0 := Aside0.mk hc0
  clear hr0 hc0
  have H : ((slices_Index_string_string.f k l0 a1).bind fun t106 => (some (decide (t106 ≥ 0)))) = some r := h
  clear h
  replace H := Option.bind_eq_some_iff.mp H
  obtain ⟨t106, A30, H⟩ := H
  replace H : (some (decide (t106 ≥ 0))) = some r := H
  have A3 := Aside0.mk A30
  clear A30
  obtain rfl := Option.some.inj H
  go_enter Tryz.func43, Tryz.ntmps43
  go_wp2_with (first | ((with_reducible refine gate_callee (f := 62) rfl ?_); refine goesL_ (some 7) rfl rfl Tryz.func62 (by kernel_rfl) rfl #[.slice A0 l0.length c0, .string a1] rfl (by (try simp only [List.map_toArray, List.map_cons, List.map_nil]); first | done | rfl | (simp only [List.length_drop, List.length_take]; rfl)) ?_; (with_reducible refine (slices_Index_string_string.calls k _ _ l0 a1 t106 _ ?side1 ?side2 A3.out).mono ?_); (case side1 => repeat (first | exact HR0.out | (with_reducible refine Kd.C_alloc ?_ _) | (with_reducible refine Kd.C_drewN ?_ _) | (with_reducible refine Kd.C_drew ?_))); (case side2 => exact HC0.out); rintro e w' ⟨rfl, ⟨nd, rfl⟩⟩; refine ⟨_, rfl, ?_⟩))
  go_ret
  exact ⟨by first | rfl | (simp; done) | (simp [*]; done), by repeat (first | exact Drawn0.refl _ | apply Drawn0.step)⟩

end Go.Proofs.YtmhilolgjcfhjaaGreat.X

/- labels.Only and labels.Without: the labels of some names; those of the others. -/
namespace Go.Proofs.YtmhilolgjcfhjaaGreat.X
open Go.RowKit Go.Proofs.YtmhilolgjcfhjaaGreatW.PrintWords Go.Proofs.YtmhilolgjcfhjaaGreatW.PrintLast Go.Proofs.YtmhilolgjcfhjaaGreatW.PrintMore

def inB (names : List ByteArray) (a : ByteArray) : Bool := names.any fun s => a.toList == s.toList
theorem index_l0 (l : List ByteArray) (a : ByteArray) (hl : l.length ≤ 4611686018427387904) : ∀ d i : Nat, i + d = l.length →
    ∃ r : Int, Ev (fun k => slices_Index_string_string.l0 k l a l.length i) r ∧ decide (r ≥ 0) = inB (l.drop i) a
  | 0, i, h => by
    refine ⟨-1, Ev.step (fun k => by rw [slices_Index_string_string.l0]) (Ev.ifn (by omega) (Ev.now _)), ?_⟩
    rw [List.drop_eq_nil_of_le (by omega)]; rfl
  | d + 1, i, h => by
    obtain ⟨r, ih, hr⟩ := index_l0 l a hl d (i + 1) (by omega)
    have e : rdOf ByteArray.empty l i = l[i]'(by omega) := by
      unfold rdOf; simp only [Int.toNat_natCast]; rw [List.getD_eq_getElem?_getD, List.getElem?_eq_getElem (by omega)]; rfl
    have hd : l.drop i = l[i]'(by omega) :: l.drop (i + 1) := List.drop_eq_getElem_cons (by omega)
    rw [hd]
    by_cases c : a.toList = (rdOf ByteArray.empty l i).toList
    · refine ⟨i, Ev.step (fun k => by rw [slices_Index_string_string.l0]) (Ev.ifp (by omega) (Ev.ifp (by omega) (Ev.ifp (by omega) (Ev.ifp c (Ev.now _))))), ?_⟩
      have : (a.toList == (l[i]'(by omega)).toList) = true := by rw [c, e]; simp
      unfold inB
      rw [List.any_cons, this, Bool.true_or]
      exact decide_eq_true (by omega)
    · refine ⟨r, Ev.step (fun k => by rw [slices_Index_string_string.l0]) (Ev.ifp (by omega) (Ev.ifp (by omega) (Ev.ifp (by omega) (Ev.ifn c ?_)))), ?_⟩
      · rw [show wrap64 ((i : Int) + 1) = ((i + 1 : Nat) : Int) by unfold wrap64; omega]; exact ih
      · have : (a.toList == (l[i]'(by omega)).toList) = false := by rw [← e]; simpa using c
        rw [hr]
        unfold inB
        rw [List.any_cons, this, Bool.false_or]
theorem contains_ev (l : List ByteArray) (a : ByteArray) (hl : l.length ≤ 4611686018427387904) : Ev (fun k => slices_Contains_string_string.f k l a) (inB l a) := by
  obtain ⟨r, h1, h2⟩ := index_l0 l a hl l.length 0 (by omega)
  rw [List.drop_zero] at h2
  unfold slices_Contains_string_string.f slices_Index_string_string.f
  refine Ev.bind h1 ?_
  rw [← h2]
  exact Ev.now _
theorem contains_call (A : Option Addr) (c : Nat) (l : List ByteArray) (a : ByteArray) (w : World) (hr : Kd.C Kd.string w A l.length l) (hc : l.length ≤ c) (hl : l.length ≤ 4611686018427387904) :
    Calls Tryz.prog 43 #[.slice A l.length c, .string a] w fun e w' => e = .returned (.bool (inB l a)) ∧ Drawn0 w w' := by
  obtain ⟨k, h⟩ := (contains_ev l a hl).rounds
  exact slices_Contains_string_string.calls k A c l a _ w hr hc h

theorem only1 (names : List ByteArray) (A : Option Addr) (c : Nat) (B : Nat) (x : S47) (w : World) (hB : B < w.heap.size) (hcell : w.cell? ⟨B, 0, none⟩ = some (.slice A names.length c)) (hr : Kd.C Kd.string w A names.length names) (hc : names.length ≤ c) (hl : names.length ≤ 4611686018427387904) :
    Calls Tryz.prog 49 #[.agg #[.string x.f0, .string x.f1], .pointer (some ⟨B, 0, none⟩)] w fun e w' => e = .returned (.bool (!inB names x.f0)) ∧ Below w.heap.size w w' := by
  have hne : B ≠ w.heap.size := by omega
  have hu47 := Tryz.underlying47
  have HB := Aside0.mk ((Below.refl w.heap.size w).alloc (Nat.le_refl _) (.cells #[.string x.f0, .string x.f1] 47))
  have HC := Aside0.mk (contains_call A c names x.f0 (w.alloc (.cells #[.string x.f0, .string x.f1] 47)) (Kd.C_below hr HB.out) hc hl)
  clear hr hl
  go_enter Tryz.func49, Tryz.ntmps49
  go_wp2_with (go_at_call 43; refine HC.out.mono ?_; rintro e w' ⟨rfl, ⟨nd, rfl⟩⟩)
  go_ret
  exact ⟨rfl, pw_below_drewN HB.out _⟩
theorem without1 (names : List ByteArray) (A : Option Addr) (c : Nat) (B : Nat) (x : S47) (w : World) (hB : B < w.heap.size) (hcell : w.cell? ⟨B, 0, none⟩ = some (.slice A names.length c)) (hr : Kd.C Kd.string w A names.length names) (hc : names.length ≤ c) (hl : names.length ≤ 4611686018427387904) :
    Calls Tryz.prog 50 #[.agg #[.string x.f0, .string x.f1], .pointer (some ⟨B, 0, none⟩)] w fun e w' => e = .returned (.bool (inB names x.f0)) ∧ Below w.heap.size w w' := by
  have hne : B ≠ w.heap.size := by omega
  have hu47 := Tryz.underlying47
  have HB := Aside0.mk ((Below.refl w.heap.size w).alloc (Nat.le_refl _) (.cells #[.string x.f0, .string x.f1] 47))
  have HC := Aside0.mk (contains_call A c names x.f0 (w.alloc (.cells #[.string x.f0, .string x.f1] 47)) (Kd.C_below hr HB.out) hc hl)
  clear hr hl
  go_enter Tryz.func50, Tryz.ntmps50
  go_wp2_with (go_at_call 43; refine HC.out.mono ?_; rintro e w' ⟨rfl, ⟨nd, rfl⟩⟩)
  go_ret
  exact ⟨rfl, pw_below_drewN HB.out _⟩

def onlyB (l : List S47) (names : List ByteArray) : List S47 := l.filter fun x => inB names x.f0
def withoutB (l : List S47) (names : List ByteArray) : List S47 := l.filter fun x => !inB names x.f0
def labels_Only.f (l0 : List S47) (l1 : List ByteArray) : Option (List S47) := if l0.length < 4398046511104 ∧ l1.length ≤ 4611686018427387904 then some (onlyB l0 l1) else none
def labels_Without.f (l0 : List S47) (l1 : List ByteArray) : Option (List S47) := if l0.length < 4398046511104 ∧ l1.length ≤ 4611686018427387904 then some (withoutB l0 l1) else none

/-- The row that is handed back is one of the call's own. -/
theorem del_row {w0 W : World} {g cap : Nat} {tl : List Value} {l r : List S47} {e : Ending} {w' : World} {base : Nat} (h : DelPost w0 g cap tl l r e w') (hr : r.length ≤ l.length) (hb : base ≤ g) (hc : l.length ≤ cap) (hm : cap ≤ maxLen) (hl : (flat47 l ++ tl).length = cap * 2) :
    ∃ v, e = .returned v ∧ Kd.R k47 47 w' base (fun _ => True) v r := by
  obtain ⟨he, d, hs, hd, ht⟩ := h
  refine ⟨_, he, ?_⟩
  have := row_shut hs hb r.length (by omega) (by omega) hm (by
    rw [← hl, List.length_append, List.length_append, flat47_length, flat47_length]; simp [hd])
  rw [ht] at this
  exact this
theorem del_nil (q : Nat) (lb : Array Value) (eg : ∀ args w, (callFunc q args).run Tryz.prog w = .ok (.enter q args) w) (A : Option Addr) (c : Nat) (W : World) :
    Calls Tryz.prog 48 #[.slice A 0 c, .func (.func q) #[] lb] W fun e w' => e = .returned (.slice A 0 c) ∧ Below W.heap.size W w' := by
  have HI := Aside0.mk (idx47 (fun _ => true) q lb eg A c [] W ⟨rfl, by simp, fun h => absurd h (Nat.lt_irrefl 0)⟩ (Nat.zero_le _) (by simp) (fun W' x hx hb => absurd hx (by simp)))
  go_enter Tryz.func48, Tryz.ntmps48
  go_wp2_with (go_at_call 51; refine HI.out.mono ?_; clear HI; rintro e w1 ⟨rfl, hb1⟩)
  go_ret
  exact ⟨rfl, hb1⟩

theorem only_ps (l0 : List S47) (l1 : List ByteArray) (A1 : Option Addr) (c1 : Nat) (w : World) (hr1 : Kd.C Kd.string w A1 l1.length l1) (hc1 : l1.length ≤ c1) (hl : l1.length ≤ 4611686018427387904) :
    PS47 49 #[.pointer (some ⟨w.heap.size, 0, none⟩)] (fun x => !inB l1 x.f0) l0 (w.alloc (.cells #[.slice A1 l1.length c1] 41)) := by
  have hb0 : Below w.heap.size w (w.alloc (.cells #[.slice A1 l1.length c1] 41)) := (Below.refl _ w).alloc (Nat.le_refl _) _
  have hcell : (w.alloc (.cells #[.slice A1 l1.length c1] 41)).cell? ⟨w.heap.size, 0, none⟩ = some (.slice A1 l1.length c1) := by rw [World.cell?_alloc_new]; rfl
  have hlt : w.heap.size < (w.alloc (.cells #[.slice A1 l1.length c1] 41)).heap.size := by rw [World.size_alloc]; exact Nat.lt_succ_self _
  exact fun W x hx hb => only1 l1 A1 c1 w.heap.size x W (Nat.lt_of_lt_of_le hlt hb.size) ((hb.cell (p := ⟨w.heap.size, 0, none⟩) hlt).trans hcell) (Kd.C_below (Kd.C_below hr1 hb0) hb) hc1 hl
set_option maxHeartbeats 1000000 in
set_option maxRecDepth 100000 in
theorem labels_Only.calls (A0 : Option Addr) (c0 : Nat) (l0 : List (S47)) (A1 : Option Addr) (c1 : Nat) (l1 : List ByteArray) (r : List (S47)) (w : World) (hr0 : Kd.C k47 w A0 l0.length l0) (hc0 : l0.length ≤ c0) (hr1 : Kd.C Kd.string w A1 l1.length l1) (hc1 : l1.length ≤ c1) (h : labels_Only.f l0 l1 = some r) :
    Calls Tryz.prog 23 #[.slice A0 l0.length c0, .slice A1 l1.length c1] w fun e w' => ∃ v0_ : Value, e = .returned (v0_) ∧ Kd.R k47 47 w' w.heap.size (fun _ => True) v0_ r ∧ Below w.heap.size w w' := by
  unfold labels_Only.f at h
  by_cases hm : l0.length < 4398046511104 ∧ l1.length ≤ 4611686018427387904
  · rw [if_pos hm] at h
    have HH := Aside0.mk (Option.some.inj h)
    have eg : ∀ args w, (callFunc 49 args).run Tryz.prog w = .ok (.enter 49 args) w := enters_of Tryz.func49 (by kernel_rfl) rfl
    have HPS := Aside0.mk (only_ps l0 l1 A1 c1 w hr1 hc1 hm.2)
    have HB0 := Aside0.mk ((Below.refl w.heap.size w).alloc (Nat.le_refl _) (.cells #[.slice A1 l1.length c1] 41))
    have HR := Aside0.mk hr0
    have HCL := Aside0.mk (slices_Clone_Label.calls A0 c0 l0 l0 (w.alloc (.cells #[.slice A1 l1.length c1] 41)) (Kd.C_below hr0 HB0.out) hc0 (by unfold slices_Clone_Label.f; rw [if_pos hm.1]))
    have N0 := Aside0.mk hm.1
    have hsp : onlyB l0 l1 = l0.filter (fun x => !((fun x => !inB l1 x.f0) x)) := by unfold onlyB; simp
    have HSP := Aside0.mk hsp
    have HEG := Aside0.mk eg
    clear h hr0 hr1 hm hsp eg
    by_cases hl : l0 = []
    · subst hl
      have HE := Aside0.mk (show r = [] by rw [← HH.out]; rfl)
      go_enter Tryz.func23, Tryz.ntmps23
      go_wp2_with (first | (go_at_call 39; refine HCL.out.mono ?_; clear HCL; rintro e w1 ⟨v, rfl, hR, hb1⟩; obtain ⟨Av, cv, rfl⟩ := Kd.R_slice hR; have HRR := Aside0.mk hR; clear hR) | (go_at_call 48; refine (del_nil 49 _ HEG.out _ _ _).mono ?_; rintro e w2 ⟨rfl, hb2⟩))
      go_ret
      have hbb : Below w.heap.size w w2 := HB0.out.trans ((hb1.trans (hb2.mono hb1.size)).mono (by simp))
      exact ⟨_, rfl, by rw [HE.out]; exact Kd.R_lower (Kd.R_below HRR.out hb2) (by simp), hbb⟩
    · have HL := Aside0.mk hl
      have n0 : 0 < l0.length := List.length_pos_iff.2 hl
      clear hl
      go_enter Tryz.func23, Tryz.ntmps23
      go_wp2_with (first | (go_at_call 39; refine HCL.out.mono ?_; clear HCL; rintro e w1 ⟨v, rfl, hR, hb1⟩; obtain ⟨g, cap, tl, rfl, hg, hcap, hmax, htl, hS⟩ := row_open hR HL.out; have HC1 := Aside0.mk (show Kd.C k47 w1 (some ⟨g, 0, none⟩) l0.length l0 by { obtain ⟨A', c', he, _, hc'⟩ := Kd.R_reads hR; injection he with h1 h2 h3; rw [h1]; exact hc' }); have HSR := Aside0.mk hS; have HTL := Aside0.mk htl; have HG := Aside0.mk hg; have HCAP := Aside0.mk hcap; have HMAX := Aside0.mk hmax; clear hR hS htl hg hcap hmax) | (go_at_call 48; refine (delFunc (fun x => !inB l1 x.f0) 49 _ HEG.out _ l0 HPS.out w1 hb1 g cap tl HG.out HCAP.out HMAX.out N0.out HC1.out HSR.out).mono ?_; rintro e w2 hD; obtain ⟨hDe, hDr⟩ := hD; subst hDe; have HDR := Aside0.mk hDr; clear hDr))
      go_ret
      obtain ⟨v, hv, hRv⟩ := del_row (base := w.heap.size) (W := w) ⟨rfl, HDR.out⟩ (List.length_filter_le _ _) (by have := HG.out; simp at this; omega) HCAP.out HMAX.out HTL.out
      obtain ⟨d, hds, _, _⟩ := HDR.out
      refine ⟨v, ?_, by rw [← HH.out, HSP.out]; exact hRv, HB0.out.trans ((row_below hds hb1 HG.out).mono (by simp))⟩
      rw [← hv]; first | rfl | (simp only [Bool.not_not]; rfl)
  · rw [if_neg hm] at h; cases h

theorem without_ps (l0 : List S47) (l1 : List ByteArray) (A1 : Option Addr) (c1 : Nat) (w : World) (hr1 : Kd.C Kd.string w A1 l1.length l1) (hc1 : l1.length ≤ c1) (hl : l1.length ≤ 4611686018427387904) :
    PS47 50 #[.pointer (some ⟨w.heap.size, 0, none⟩)] (fun x => inB l1 x.f0) l0 (w.alloc (.cells #[.slice A1 l1.length c1] 41)) := by
  have hb0 : Below w.heap.size w (w.alloc (.cells #[.slice A1 l1.length c1] 41)) := (Below.refl _ w).alloc (Nat.le_refl _) _
  have hcell : (w.alloc (.cells #[.slice A1 l1.length c1] 41)).cell? ⟨w.heap.size, 0, none⟩ = some (.slice A1 l1.length c1) := by rw [World.cell?_alloc_new]; rfl
  have hlt : w.heap.size < (w.alloc (.cells #[.slice A1 l1.length c1] 41)).heap.size := by rw [World.size_alloc]; exact Nat.lt_succ_self _
  exact fun W x hx hb => without1 l1 A1 c1 w.heap.size x W (Nat.lt_of_lt_of_le hlt hb.size) ((hb.cell (p := ⟨w.heap.size, 0, none⟩) hlt).trans hcell) (Kd.C_below (Kd.C_below hr1 hb0) hb) hc1 hl
set_option maxHeartbeats 1000000 in
set_option maxRecDepth 100000 in
theorem labels_Without.calls (A0 : Option Addr) (c0 : Nat) (l0 : List (S47)) (A1 : Option Addr) (c1 : Nat) (l1 : List ByteArray) (r : List (S47)) (w : World) (hr0 : Kd.C k47 w A0 l0.length l0) (hc0 : l0.length ≤ c0) (hr1 : Kd.C Kd.string w A1 l1.length l1) (hc1 : l1.length ≤ c1) (h : labels_Without.f l0 l1 = some r) :
    Calls Tryz.prog 24 #[.slice A0 l0.length c0, .slice A1 l1.length c1] w fun e w' => ∃ v0_ : Value, e = .returned (v0_) ∧ Kd.R k47 47 w' w.heap.size (fun _ => True) v0_ r ∧ Below w.heap.size w w' := by
  unfold labels_Without.f at h
  by_cases hm : l0.length < 4398046511104 ∧ l1.length ≤ 4611686018427387904
  · rw [if_pos hm] at h
    have HH := Aside0.mk (Option.some.inj h)
    have eg : ∀ args w, (callFunc 50 args).run Tryz.prog w = .ok (.enter 50 args) w := enters_of Tryz.func50 (by kernel_rfl) rfl
    have HPS := Aside0.mk (without_ps l0 l1 A1 c1 w hr1 hc1 hm.2)
    have HB0 := Aside0.mk ((Below.refl w.heap.size w).alloc (Nat.le_refl _) (.cells #[.slice A1 l1.length c1] 41))
    have HR := Aside0.mk hr0
    have HCL := Aside0.mk (slices_Clone_Label.calls A0 c0 l0 l0 (w.alloc (.cells #[.slice A1 l1.length c1] 41)) (Kd.C_below hr0 HB0.out) hc0 (by unfold slices_Clone_Label.f; rw [if_pos hm.1]))
    have N0 := Aside0.mk hm.1
    have hsp : withoutB l0 l1 = l0.filter (fun x => !((fun x => inB l1 x.f0) x)) := by unfold withoutB; simp
    have HSP := Aside0.mk hsp
    have HEG := Aside0.mk eg
    clear h hr0 hr1 hm hsp eg
    by_cases hl : l0 = []
    · subst hl
      have HE := Aside0.mk (show r = [] by rw [← HH.out]; rfl)
      go_enter Tryz.func24, Tryz.ntmps24
      go_wp2_with (first | (go_at_call 39; refine HCL.out.mono ?_; clear HCL; rintro e w1 ⟨v, rfl, hR, hb1⟩; obtain ⟨Av, cv, rfl⟩ := Kd.R_slice hR; have HRR := Aside0.mk hR; clear hR) | (go_at_call 48; refine (del_nil 50 _ HEG.out _ _ _).mono ?_; rintro e w2 ⟨rfl, hb2⟩))
      go_ret
      have hbb : Below w.heap.size w w2 := HB0.out.trans ((hb1.trans (hb2.mono hb1.size)).mono (by simp))
      exact ⟨_, rfl, by rw [HE.out]; exact Kd.R_lower (Kd.R_below HRR.out hb2) (by simp), hbb⟩
    · have HL := Aside0.mk hl
      have n0 : 0 < l0.length := List.length_pos_iff.2 hl
      clear hl
      go_enter Tryz.func24, Tryz.ntmps24
      go_wp2_with (first | (go_at_call 39; refine HCL.out.mono ?_; clear HCL; rintro e w1 ⟨v, rfl, hR, hb1⟩; obtain ⟨g, cap, tl, rfl, hg, hcap, hmax, htl, hS⟩ := row_open hR HL.out; have HC1 := Aside0.mk (show Kd.C k47 w1 (some ⟨g, 0, none⟩) l0.length l0 by { obtain ⟨A', c', he, _, hc'⟩ := Kd.R_reads hR; injection he with h1 h2 h3; rw [h1]; exact hc' }); have HSR := Aside0.mk hS; have HTL := Aside0.mk htl; have HG := Aside0.mk hg; have HCAP := Aside0.mk hcap; have HMAX := Aside0.mk hmax; clear hR hS htl hg hcap hmax) | (go_at_call 48; refine (delFunc (fun x => inB l1 x.f0) 50 _ HEG.out _ l0 HPS.out w1 hb1 g cap tl HG.out HCAP.out HMAX.out N0.out HC1.out HSR.out).mono ?_; rintro e w2 hD; obtain ⟨hDe, hDr⟩ := hD; subst hDe; have HDR := Aside0.mk hDr; clear hDr))
      go_ret
      obtain ⟨v, hv, hRv⟩ := del_row (base := w.heap.size) (W := w) ⟨rfl, HDR.out⟩ (List.length_filter_le _ _) (by have := HG.out; simp at this; omega) HCAP.out HMAX.out HTL.out
      obtain ⟨d, hds, _, _⟩ := HDR.out
      refine ⟨v, ?_, by rw [← HH.out, HSP.out]; exact hRv, HB0.out.trans ((row_below hds hb1 HG.out).mono (by simp))⟩
      rw [← hv]; first | rfl | (simp only [Bool.not_not]; rfl)
  · rw [if_neg hm] at h; cases h
end Go.Proofs.YtmhilolgjcfhjaaGreat.X

namespace Go.Proofs.YtmhilolgjcfhjaaGreat.X
open Go.RowKit Go.Proofs.YtmhilolgjcfhjaaGreatW.PrintWords Go.Proofs.YtmhilolgjcfhjaaGreatW.PrintLast Go.Proofs.YtmhilolgjcfhjaaGreatW.PrintMore
attribute [local go_sem] max2_int min2_int max_two min_two max_three min_three max_four min_four   -- for this text's walks alone
set_option linter.unusedVariables false
set_option linter.unusedSimpArgs false

/-! ### stringslite_HasPrefix: function 74 -/
def stringslite_HasPrefix.f (a0 : ByteArray) (a1 : ByteArray) : Option (Bool) := if (a0.size : Int) ≥ (a1.size : Int) then (if 0 ≤ (a1.size : Int) then (if (a1.size : Int) ≤ (a0.size : Int) then (some ((a0.extract 0 ((a1.size : Int) : Int).toNat).toList == a1.toList)) else (none)) else (none)) else (some false)
set_option maxHeartbeats 8000000 in
set_option maxRecDepth 100000 in
theorem stringslite_HasPrefix.calls (a0 : ByteArray) (a1 : ByteArray) (r : Bool) (w : World) (h : stringslite_HasPrefix.f a0 a1 = some r) :
    Calls Tryz.prog 74 #[.string a0, .string a1] w fun e w' => e = .returned (.bool r) ∧ Drawn0 w w' := by
  have H : (if (a0.size : Int) ≥ (a1.size : Int) then (if 0 ≤ (a1.size : Int) then (if (a1.size : Int) ≤ (a0.size : Int) then (some ((a0.extract 0 ((a1.size : Int) : Int).toNat).toList == a1.toList)) else (none)) else (none)) else (some false)) = some r := h
  clear h
  by_cases c3 : (a0.size : Int) ≥ (a1.size : Int)
  · rw [if_pos c3] at H
    have c3b0 : decide ((a1.size : Int) ≤ (a0.size : Int)) = true := decide_eq_true c3
    have c3b1 : decide (a1.size ≤ a0.size) = true := decide_eq_true (Int.ofNat_le.mp c3)
    clear c3
    by_cases c4 : 0 ≤ (a1.size : Int)
    · rw [if_pos c4] at H
      have c4b0 := eq_true c4
      have c4b1 : decide (0 ≤ (a1.size : Int)) = true := decide_eq_true c4
      clear c4
      by_cases c5 : (a1.size : Int) ≤ (a0.size : Int)
      · rw [if_pos c5] at H
        have c5b0 := eq_true c5
        have c5b1 : decide ((a1.size : Int) ≤ (a0.size : Int)) = true := decide_eq_true c5
        clear c5
        obtain rfl := Option.some.inj H
        go_enter Tryz.func74, Tryz.ntmps74
        go_wp2
        go_ret
        exact ⟨by first | rfl | (simp; done) | (simp [*]; done), by repeat (first | exact Drawn0.refl _ | apply Drawn0.step)⟩
      · rw [if_neg c5] at H
        exact absurd H (by simp)
    · rw [if_neg c4] at H
      exact absurd H (by simp)
  · rw [if_neg c3] at H
    have c3b0 : decide ((a1.size : Int) ≤ (a0.size : Int)) = false := decide_eq_false c3
    have c3b1 : decide (a1.size ≤ a0.size) = false := decide_eq_false (fun h => c3 (Int.ofNat_le.mpr h))
    clear c3
    obtain rfl := Option.some.inj H
    go_enter Tryz.func74, Tryz.ntmps74
    go_wp2
    go_ret
    exact ⟨by first | rfl | (simp; done) | (simp [*]; done), by repeat (first | exact Drawn0.refl _ | apply Drawn0.step)⟩

end Go.Proofs.YtmhilolgjcfhjaaGreat.X

namespace Go.Proofs.YtmhilolgjcfhjaaGreat.X
open Go.RowKit Go.Proofs.YtmhilolgjcfhjaaGreatW.PrintWords Go.Proofs.YtmhilolgjcfhjaaGreatW.PrintLast Go.Proofs.YtmhilolgjcfhjaaGreatW.PrintMore
attribute [local go_sem] max2_int min2_int max_two min_two max_three min_three max_four min_four   -- for this text's walks alone
set_option linter.unusedVariables false
set_option linter.unusedSimpArgs false

/-! ### strings_HasPrefix: function 64 -/
def strings_HasPrefix.f (a0 : ByteArray) (a1 : ByteArray) : Option (Bool) := (stringslite_HasPrefix.f a0 a1).bind fun t503 => (some t503)
set_option maxHeartbeats 8000000 in
set_option maxRecDepth 100000 in
theorem strings_HasPrefix.calls (a0 : ByteArray) (a1 : ByteArray) (r : Bool) (w : World) (h : strings_HasPrefix.f a0 a1 = some r) :
    Calls Tryz.prog 64 #[.string a0, .string a1] w fun e w' => e = .returned (.bool r) ∧ Drawn0 w w' := by
  have H : ((stringslite_HasPrefix.f a0 a1).bind fun t503 => (some t503)) = some r := h
  clear h
  replace H := Option.bind_eq_some_iff.mp H
  obtain ⟨t503, A30, H⟩ := H
  replace H : (some t503) = some r := H
  have A3 := Aside0.mk A30
  clear A30
  obtain rfl := Option.some.inj H
  go_enter Tryz.func64, Tryz.ntmps64
  go_wp2_with (first | ((with_reducible refine gate_callee (f := 74) rfl ?_); refine goesL_ (some 7) rfl rfl Tryz.func74 (by kernel_rfl) rfl #[.string a0, .string a1] rfl (by (try simp only [List.map_toArray, List.map_cons, List.map_nil]); first | done | rfl | (simp only [List.length_drop, List.length_take]; rfl)) ?_; (with_reducible refine (stringslite_HasPrefix.calls a0 a1 t503 _ A3.out).mono ?_); rintro e w' ⟨rfl, ⟨nd, rfl⟩⟩; refine ⟨_, rfl, ?_⟩))
  go_ret
  exact ⟨by first | rfl | (simp; done) | (simp [*]; done), by repeat (first | exact Drawn0.refl _ | apply Drawn0.step)⟩

end Go.Proofs.YtmhilolgjcfhjaaGreat.X

namespace Go.Proofs.YtmhilolgjcfhjaaGreat.X
open Go.RowKit Go.Proofs.YtmhilolgjcfhjaaGreatW.PrintWords Go.Proofs.YtmhilolgjcfhjaaGreatW.PrintLast Go.Proofs.YtmhilolgjcfhjaaGreatW.PrintMore
attribute [local go_sem] max2_int min2_int max_two min_two max_three min_three max_four min_four   -- for this text's walks alone
set_option linter.unusedVariables false
set_option linter.unusedSimpArgs false

theorem eqA47 (d : Nat) (w : World) (x0 y0 : ByteArray) (x1 y1 : ByteArray) :
    (Op.equalIn (d + 2) 47 (.agg #[.string x0, .string x1]) (.agg #[.string y0, .string y1])).run Tryz.prog w = .ok (x0.toList == y0.toList && (x1.toList == y1.toList)) w := by
  refine eqA_of Tryz.underlying47 (by kernel_rfl) ?_
  refine eqf_cons (by rfl) (by go_simp; rfl) (by go_simp; rfl) (by go_simp) ?_
  exact eqf_last (by rfl) (by go_simp; rfl) (by go_simp; rfl) (by go_simp)
end Go.Proofs.YtmhilolgjcfhjaaGreat.X

namespace Go.Proofs.YtmhilolgjcfhjaaGreat.X
open Go.RowKit Go.Proofs.YtmhilolgjcfhjaaGreatW.PrintWords Go.Proofs.YtmhilolgjcfhjaaGreatW.PrintLast Go.Proofs.YtmhilolgjcfhjaaGreatW.PrintMore
attribute [local go_sem] max2_int min2_int max_two min_two max_three min_three max_four min_four   -- for this text's walks alone
set_option linter.unusedVariables false
set_option linter.unusedSimpArgs false

/-! ### labels_matches: function 47 -/
def labels_matches.f (a0 : ByteArray) (a1_0 : ByteArray) (a1_1 : ByteArray) (a1_2 : ByteArray) : Option (Bool) := if a1_1.toList = ([61] : List UInt8) then (some (a0.toList == a1_2.toList)) else (if a1_1.toList = ([33, 61] : List UInt8) then (some (a0.toList != a1_2.toList)) else (if a1_1.toList = ([94, 61] : List UInt8) then ((strings_HasPrefix.f a0 a1_2).bind fun t505 => (some t505)) else (if a1_1.toList = ([33, 94] : List UInt8) then ((strings_HasPrefix.f a0 a1_2).bind fun t506 => (some (!t506))) else (some false))))
set_option maxHeartbeats 8000000 in
set_option maxRecDepth 100000 in
theorem labels_matches.calls (a0 : ByteArray) (a1_0 : ByteArray) (a1_1 : ByteArray) (a1_2 : ByteArray) (r : Bool) (w : World) (h : labels_matches.f a0 a1_0 a1_1 a1_2 = some r) :
    Calls Tryz.prog 47 #[.string a0, .agg #[.string a1_0, .string a1_1, .string a1_2]] w fun e w' => e = .returned (.bool r) ∧ Below w.heap.size w w' := by
  have hu35 := Tryz.underlying35
  have HB := Aside0.mk (Below.refl w.heap.size w)
  have H : (if a1_1.toList = ([61] : List UInt8) then (some (a0.toList == a1_2.toList)) else (if a1_1.toList = ([33, 61] : List UInt8) then (some (a0.toList != a1_2.toList)) else (if a1_1.toList = ([94, 61] : List UInt8) then ((strings_HasPrefix.f a0 a1_2).bind fun t505 => (some t505)) else (if a1_1.toList = ([33, 94] : List UInt8) then ((strings_HasPrefix.f a0 a1_2).bind fun t506 => (some (!t506))) else (some false))))) = some r := h
  clear h
  by_cases c3 : a1_1.toList = ([61] : List UInt8)
  · rw [if_pos c3] at H
    have c3b0 : (a1_1.toList == ([61] : List UInt8)) = true := beq_iff_eq.mpr c3
    have c3b1 : (a1_1.toList != ([61] : List UInt8)) = false := bne_eq_false_iff_eq.mpr c3
    clear c3
    obtain rfl := Option.some.inj H
    go_enter Tryz.func47, Tryz.ntmps47
    go_wp2_with (first | ((with_reducible refine gate_dst (N := 3) rfl ?_); refine box_event ?hg (N := 3) ?hd (cs := #[.string a1_0, .string a1_1, .string a1_2]) (t := 35) ?hr ?_; (case hd => rfl); (case hg => rfl); (case hr => first | (go_simp; done) | (go_simp; rfl)); intro gb504 hg w4 hbox hb; have n0_ := Aside0.mk (below_step (by repeat (first | (with_reducible first | exact HB.out | apply below_alloc | apply pw_below_drewN | apply below_drew1) | exact HB.out)) hb); have n1_ := Aside0.mk (hbox); have n2_ := Aside0.mk ((by rw [hg]; exact (below_size (by repeat (first | (with_reducible first | exact HB.out | apply below_alloc | apply pw_below_drewN | apply below_drew1) | exact HB.out))) : w.heap.size ≤ gb504)); have n3_ := Aside0.mk ((by rw [hg]; exact (below_size (by repeat (first | (with_reducible first | exact HB.out | apply below_alloc | apply pw_below_drewN | apply below_drew1) | exact HB.out))) : w.heap.size ≤ gb504)); clear HB; have HB := n0_; have BK504 := n1_; have GW504 := n2_; have GE504 := n3_; clear n0_ n1_ n2_ n3_; clear hb hbox hg; have hcz5_0 : w4.cell? ⟨gb504, 0, none⟩ = some (.string a1_0) := (blk_cell BK504.out 0).trans rfl; have hcz5_1 : w4.cell? ⟨gb504, 1, none⟩ = some (.string a1_1) := (blk_cell BK504.out 1).trans rfl; have hcz5_2 : w4.cell? ⟨gb504, 2, none⟩ = some (.string a1_2) := (blk_cell BK504.out 2).trans rfl; have hfz5_0 := blk_frozen BK504.out 0; have hfz5_1 := blk_frozen BK504.out 1; have hfz5_2 := blk_frozen BK504.out 2))
    go_ret
    exact ⟨by first | rfl | (simp [errW_none, errW_some] <;> rfl) | (simp [*, errW_none, errW_some] <;> rfl), by repeat (first | (with_reducible first | exact HB.out | apply below_alloc | apply pw_below_drewN | apply below_drew1 | refine below_set ?_ GE504.out) | exact HB.out)⟩
  · rw [if_neg c3] at H
    have c3b0 : (a1_1.toList == ([61] : List UInt8)) = false := beq_eq_false_iff_ne.mpr c3
    have c3b1 : (a1_1.toList != ([61] : List UInt8)) = true := bne_iff_ne.mpr c3
    by_cases c6 : a1_1.toList = ([33, 61] : List UInt8)
    · rw [if_pos c6] at H
      have c6b0 : (a1_1.toList == ([33, 61] : List UInt8)) = true := beq_iff_eq.mpr c6
      have c6b1 : (a1_1.toList != ([33, 61] : List UInt8)) = false := bne_eq_false_iff_eq.mpr c6
      clear c6
      obtain rfl := Option.some.inj H
      go_enter Tryz.func47, Tryz.ntmps47
      go_wp2_with (first | ((with_reducible refine gate_dst (N := 3) rfl ?_); refine box_event ?hg (N := 3) ?hd (cs := #[.string a1_0, .string a1_1, .string a1_2]) (t := 35) ?hr ?_; (case hd => rfl); (case hg => rfl); (case hr => first | (go_simp; done) | (go_simp; rfl)); intro gb504 hg w7 hbox hb; have n0_ := Aside0.mk (below_step (by repeat (first | (with_reducible first | exact HB.out | apply below_alloc | apply pw_below_drewN | apply below_drew1) | exact HB.out)) hb); have n1_ := Aside0.mk (hbox); have n2_ := Aside0.mk ((by rw [hg]; exact (below_size (by repeat (first | (with_reducible first | exact HB.out | apply below_alloc | apply pw_below_drewN | apply below_drew1) | exact HB.out))) : w.heap.size ≤ gb504)); have n3_ := Aside0.mk ((by rw [hg]; exact (below_size (by repeat (first | (with_reducible first | exact HB.out | apply below_alloc | apply pw_below_drewN | apply below_drew1) | exact HB.out))) : w.heap.size ≤ gb504)); clear HB; have HB := n0_; have BK504 := n1_; have GW504 := n2_; have GE504 := n3_; clear n0_ n1_ n2_ n3_; clear hb hbox hg; have hcz8_0 : w7.cell? ⟨gb504, 0, none⟩ = some (.string a1_0) := (blk_cell BK504.out 0).trans rfl; have hcz8_1 : w7.cell? ⟨gb504, 1, none⟩ = some (.string a1_1) := (blk_cell BK504.out 1).trans rfl; have hcz8_2 : w7.cell? ⟨gb504, 2, none⟩ = some (.string a1_2) := (blk_cell BK504.out 2).trans rfl; have hfz8_0 := blk_frozen BK504.out 0; have hfz8_1 := blk_frozen BK504.out 1; have hfz8_2 := blk_frozen BK504.out 2))
      go_ret
      exact ⟨by first | rfl | (simp [errW_none, errW_some] <;> rfl) | (simp [*, errW_none, errW_some] <;> rfl), by repeat (first | (with_reducible first | exact HB.out | apply below_alloc | apply pw_below_drewN | apply below_drew1 | refine below_set ?_ GE504.out) | exact HB.out)⟩
    · rw [if_neg c6] at H
      have c6b0 : (a1_1.toList == ([33, 61] : List UInt8)) = false := beq_eq_false_iff_ne.mpr c6
      have c6b1 : (a1_1.toList != ([33, 61] : List UInt8)) = true := bne_iff_ne.mpr c6
      by_cases c9 : a1_1.toList = ([94, 61] : List UInt8)
      · rw [if_pos c9] at H
        have c9b0 : (a1_1.toList == ([94, 61] : List UInt8)) = true := beq_iff_eq.mpr c9
        have c9b1 : (a1_1.toList != ([94, 61] : List UInt8)) = false := bne_eq_false_iff_eq.mpr c9
        clear c9
        replace H := Option.bind_eq_some_iff.mp H
        obtain ⟨t505, A100, H⟩ := H
        replace H : (some t505) = some r := H
        have A10 := Aside0.mk A100
        clear A100
        obtain rfl := Option.some.inj H
        go_enter Tryz.func47, Tryz.ntmps47
        go_wp2_with (first | ((with_reducible refine gate_dst (N := 3) rfl ?_); refine box_event ?hg (N := 3) ?hd (cs := #[.string a1_0, .string a1_1, .string a1_2]) (t := 35) ?hr ?_; (case hd => rfl); (case hg => rfl); (case hr => first | (go_simp; done) | (go_simp; rfl)); intro gb504 hg w11 hbox hb; have n0_ := Aside0.mk (below_step (by repeat (first | (with_reducible first | exact HB.out | apply below_alloc | apply pw_below_drewN | apply below_drew1) | exact HB.out)) hb); have n1_ := Aside0.mk (hbox); have n2_ := Aside0.mk ((by rw [hg]; exact (below_size (by repeat (first | (with_reducible first | exact HB.out | apply below_alloc | apply pw_below_drewN | apply below_drew1) | exact HB.out))) : w.heap.size ≤ gb504)); have n3_ := Aside0.mk ((by rw [hg]; exact (below_size (by repeat (first | (with_reducible first | exact HB.out | apply below_alloc | apply pw_below_drewN | apply below_drew1) | exact HB.out))) : w.heap.size ≤ gb504)); clear HB; have HB := n0_; have BK504 := n1_; have GW504 := n2_; have GE504 := n3_; clear n0_ n1_ n2_ n3_; clear hb hbox hg; have hcz12_0 : w11.cell? ⟨gb504, 0, none⟩ = some (.string a1_0) := (blk_cell BK504.out 0).trans rfl; have hcz12_1 : w11.cell? ⟨gb504, 1, none⟩ = some (.string a1_1) := (blk_cell BK504.out 1).trans rfl; have hcz12_2 : w11.cell? ⟨gb504, 2, none⟩ = some (.string a1_2) := (blk_cell BK504.out 2).trans rfl; have hfz12_0 := blk_frozen BK504.out 0; have hfz12_1 := blk_frozen BK504.out 1; have hfz12_2 := blk_frozen BK504.out 2) | ((with_reducible refine gate_callee (f := 64) rfl ?_); refine goesL_ (some 24) rfl rfl Tryz.func64 (by kernel_rfl) rfl #[.string a0, .string a1_2] rfl (by (try simp only [List.map_toArray, List.map_cons, List.map_nil]); first | done | rfl | (simp only [List.length_drop, List.length_take]; rfl)) ?_; (with_reducible refine (strings_HasPrefix.calls a0 a1_2 t505 _ A10.out).mono ?_); rintro e w' ⟨rfl, ⟨nd, rfl⟩⟩; refine ⟨_, rfl, ?_⟩))
        go_ret
        exact ⟨by first | rfl | (simp [errW_none, errW_some] <;> rfl) | (simp [*, errW_none, errW_some] <;> rfl), by repeat (first | (with_reducible first | exact HB.out | apply below_alloc | apply pw_below_drewN | apply below_drew1 | refine below_set ?_ GE504.out) | exact HB.out)⟩
      · rw [if_neg c9] at H
        have c9b0 : (a1_1.toList == ([94, 61] : List UInt8)) = false := beq_eq_false_iff_ne.mpr c9
        have c9b1 : (a1_1.toList != ([94, 61] : List UInt8)) = true := bne_iff_ne.mpr c9
        by_cases c13 : a1_1.toList = ([33, 94] : List UInt8)
        · rw [if_pos c13] at H
          have c13b0 : (a1_1.toList == ([33, 94] : List UInt8)) = true := beq_iff_eq.mpr c13
          have c13b1 : (a1_1.toList != ([33, 94] : List UInt8)) = false := bne_eq_false_iff_eq.mpr c13
          clear c13
          replace H := Option.bind_eq_some_iff.mp H
          obtain ⟨t506, A140, H⟩ := H
          replace H : (some (!t506)) = some r := H
          have A14 := Aside0.mk A140
          clear A140
          obtain rfl := Option.some.inj H
          go_enter Tryz.func47, Tryz.ntmps47
          go_wp2_with (first | ((with_reducible refine gate_dst (N := 3) rfl ?_); refine box_event ?hg (N := 3) ?hd (cs := #[.string a1_0, .string a1_1, .string a1_2]) (t := 35) ?hr ?_; (case hd => rfl); (case hg => rfl); (case hr => first | (go_simp; done) | (go_simp; rfl)); intro gb504 hg w15 hbox hb; have n0_ := Aside0.mk (below_step (by repeat (first | (with_reducible first | exact HB.out | apply below_alloc | apply pw_below_drewN | apply below_drew1) | exact HB.out)) hb); have n1_ := Aside0.mk (hbox); have n2_ := Aside0.mk ((by rw [hg]; exact (below_size (by repeat (first | (with_reducible first | exact HB.out | apply below_alloc | apply pw_below_drewN | apply below_drew1) | exact HB.out))) : w.heap.size ≤ gb504)); have n3_ := Aside0.mk ((by rw [hg]; exact (below_size (by repeat (first | (with_reducible first | exact HB.out | apply below_alloc | apply pw_below_drewN | apply below_drew1) | exact HB.out))) : w.heap.size ≤ gb504)); clear HB; have HB := n0_; have BK504 := n1_; have GW504 := n2_; have GE504 := n3_; clear n0_ n1_ n2_ n3_; clear hb hbox hg; have hcz16_0 : w15.cell? ⟨gb504, 0, none⟩ = some (.string a1_0) := (blk_cell BK504.out 0).trans rfl; have hcz16_1 : w15.cell? ⟨gb504, 1, none⟩ = some (.string a1_1) := (blk_cell BK504.out 1).trans rfl; have hcz16_2 : w15.cell? ⟨gb504, 2, none⟩ = some (.string a1_2) := (blk_cell BK504.out 2).trans rfl; have hfz16_0 := blk_frozen BK504.out 0; have hfz16_1 := blk_frozen BK504.out 1; have hfz16_2 := blk_frozen BK504.out 2) | ((with_reducible refine gate_callee (f := 64) rfl ?_); refine goesL_ (some 30) rfl rfl Tryz.func64 (by kernel_rfl) rfl #[.string a0, .string a1_2] rfl (by (try simp only [List.map_toArray, List.map_cons, List.map_nil]); first | done | rfl | (simp only [List.length_drop, List.length_take]; rfl)) ?_; (with_reducible refine (strings_HasPrefix.calls a0 a1_2 t506 _ A14.out).mono ?_); rintro e w' ⟨rfl, ⟨nd, rfl⟩⟩; refine ⟨_, rfl, ?_⟩))
          go_ret
          exact ⟨by first | rfl | (simp [errW_none, errW_some] <;> rfl) | (simp [*, errW_none, errW_some] <;> rfl), by repeat (first | (with_reducible first | exact HB.out | apply below_alloc | apply pw_below_drewN | apply below_drew1 | refine below_set ?_ GE504.out) | exact HB.out)⟩
        · rw [if_neg c13] at H
          have c13b0 : (a1_1.toList == ([33, 94] : List UInt8)) = false := beq_eq_false_iff_ne.mpr c13
          have c13b1 : (a1_1.toList != ([33, 94] : List UInt8)) = true := bne_iff_ne.mpr c13
          obtain rfl := Option.some.inj H
          go_enter Tryz.func47, Tryz.ntmps47
          go_wp2_with (first | ((with_reducible refine gate_dst (N := 3) rfl ?_); refine box_event ?hg (N := 3) ?hd (cs := #[.string a1_0, .string a1_1, .string a1_2]) (t := 35) ?hr ?_; (case hd => rfl); (case hg => rfl); (case hr => first | (go_simp; done) | (go_simp; rfl)); intro gb504 hg w17 hbox hb; have n0_ := Aside0.mk (below_step (by repeat (first | (with_reducible first | exact HB.out | apply below_alloc | apply pw_below_drewN | apply below_drew1) | exact HB.out)) hb); have n1_ := Aside0.mk (hbox); have n2_ := Aside0.mk ((by rw [hg]; exact (below_size (by repeat (first | (with_reducible first | exact HB.out | apply below_alloc | apply pw_below_drewN | apply below_drew1) | exact HB.out))) : w.heap.size ≤ gb504)); have n3_ := Aside0.mk ((by rw [hg]; exact (below_size (by repeat (first | (with_reducible first | exact HB.out | apply below_alloc | apply pw_below_drewN | apply below_drew1) | exact HB.out))) : w.heap.size ≤ gb504)); clear HB; have HB := n0_; have BK504 := n1_; have GW504 := n2_; have GE504 := n3_; clear n0_ n1_ n2_ n3_; clear hb hbox hg; have hcz18_0 : w17.cell? ⟨gb504, 0, none⟩ = some (.string a1_0) := (blk_cell BK504.out 0).trans rfl; have hcz18_1 : w17.cell? ⟨gb504, 1, none⟩ = some (.string a1_1) := (blk_cell BK504.out 1).trans rfl; have hcz18_2 : w17.cell? ⟨gb504, 2, none⟩ = some (.string a1_2) := (blk_cell BK504.out 2).trans rfl; have hfz18_0 := blk_frozen BK504.out 0; have hfz18_1 := blk_frozen BK504.out 1; have hfz18_2 := blk_frozen BK504.out 2))
          go_ret
          exact ⟨by first | rfl | (simp [errW_none, errW_some] <;> rfl) | (simp [*, errW_none, errW_some] <;> rfl), by repeat (first | (with_reducible first | exact HB.out | apply below_alloc | apply pw_below_drewN | apply below_drew1 | refine below_set ?_ GE504.out) | exact HB.out)⟩

end Go.Proofs.YtmhilolgjcfhjaaGreat.X

/- labels.Match: is every matcher met by the label of its name? -/
namespace Go.Proofs.YtmhilolgjcfhjaaGreat.X
open Go.RowKit Go.Proofs.YtmhilolgjcfhjaaGreatW.PrintWords Go.Proofs.YtmhilolgjcfhjaaGreatW.PrintLast Go.Proofs.YtmhilolgjcfhjaaGreatW.PrintMore

def begB (v w : ByteArray) : Bool := if w.size ≤ v.size then (v.extract 0 w.size).toList == w.toList else false
def mB (v op w : ByteArray) : Bool :=
  if op.toList = [61] then v.toList == w.toList else if op.toList = [33, 61] then !(v.toList == w.toList) else if op.toList = [94, 61] then begB v w else if op.toList = [33, 94] then !begB v w else false
def matchB (l : List S47) (m : S35) : Bool := mB (getB l m.f0) m.f1 m.f2
def labels_Match.f (l0 : List S47) (l1 : List S35) : Option Bool := if l0.length ≤ 4611686018427387904 ∧ l1.length ≤ 4611686018427387904 then some (l1.all (matchB l0)) else none
theorem begB_f (v w : ByteArray) : strings_HasPrefix.f v w = some (begB v w) := by
  unfold strings_HasPrefix.f stringslite_HasPrefix.f begB
  by_cases h : w.size ≤ v.size
  · rw [if_pos (show (v.size : Int) ≥ w.size by omega), if_pos (by omega), if_pos (by omega), if_pos h]; rfl
  · rw [if_neg (show ¬ (v.size : Int) ≥ w.size by omega), if_neg h]; rfl
theorem mB_f (v n op w : ByteArray) : labels_matches.f v n op w = some (mB v op w) := by
  unfold labels_matches.f mB
  simp only [begB_f, Option.bind_some]
  repeat' split
  all_goals first | rfl | simp_all

set_option maxHeartbeats 1000000 in
set_option maxRecDepth 100000 in
theorem match1 (l : List S47) (A : Option Addr) (c : Nat) (B : Nat) (m : S35) (w : World) (hB : B < w.heap.size) (hcell : w.cell? ⟨B, 0, none⟩ = some (.slice A l.length c)) (hr : Kd.C k47 w A l.length l) (hc : l.length ≤ c) (hm : l.length ≤ 4611686018427387904) :
    Calls Tryz.prog 46 #[.agg #[.string m.f0, .string m.f1, .string m.f2], .pointer (some ⟨B, 0, none⟩)] w fun e w' => e = .returned (.bool (!matchB l m)) ∧ Below w.heap.size w w' := by
  have hu35 := Tryz.underlying35
  have hne : B ≠ w.heap.size := by omega
  have HB := Aside0.mk ((Below.refl w.heap.size w).alloc (Nat.le_refl _) (.cells #[.string m.f0, .string m.f1, .string m.f2] 35))
  obtain ⟨W, hW⟩ : ∃ W, W = w.alloc (.cells #[.string m.f0, .string m.f1, .string m.f2] 35) := ⟨_, rfl⟩
  have HG := Aside0.mk (fun d os => labels_Get.calls A c l m.f0 (getB l m.f0) (Go.Sort.grow (redrawn W d) os) (Kd.C_below (Kd.C_below hr (hW ▸ HB.out)) (below_regrown W d os)) hc (by unfold labels_Get.f; rw [if_pos hm]))
  have HM := Aside0.mk (fun d os => labels_matches.calls (getB l m.f0) m.f0 m.f1 m.f2 (matchB l m) (Go.Sort.grow (redrawn W d) os) (mB_f _ _ _ _))
  have l0 := cell_regrown (show W.cell? ⟨B, 0, none⟩ = some (.slice A l.length c) by rw [hW, HB.out.cell (p := ⟨B, 0, none⟩) hB]; exact hcell)
  have l1 := cell_regrown (show W.cell? ⟨w.heap.size, 0, none⟩ = some (.string m.f0) by rw [hW, World.cell?_alloc_new]; rfl)
  have l2 := cell_regrown (show W.cell? ⟨w.heap.size, 1, none⟩ = some (.string m.f1) by rw [hW, World.cell?_alloc_new]; rfl)
  have l3 := cell_regrown (show W.cell? ⟨w.heap.size, 2, none⟩ = some (.string m.f2) by rw [hW, World.cell?_alloc_new]; rfl)
  have HW := Aside0.mk hW
  clear hcell hr hm hW
  generalize matchB l m = r at HM
  generalize getB l m.f0 = v at HG HM
  go_enter Tryz.func46, Tryz.ntmps46
  go_wp2_with fail
  rw [← HW.out]
  refine wp_region_quiet_below (by kernel_rfl) (by kernel_rfl) ?_
  repeat (quiet_step ((first | (go_at_call 25; exact Calls.regrown_of (HG.out _ _)) | (go_at_call 47; exact Calls.regrown_of (HM.out _ _)))))
  refine wpQuiet_nil ?_
  intro _ hw'
  obtain ⟨⟨dq, osq⟩, hw''⟩ := hw'
  subst hw''
  have hb2 := below_regrown W dq osq
  generalize Go.Sort.grow (redrawn W dq) osq = w2 at hb2 ⊢
  clear l0 l1 l2 l3
  go_wp2_with fail
  go_ret
  refine ⟨rfl, ?_⟩
  have hh := HW.out
  subst hh
  exact HB.out.trans (hb2.mono (by simp))
theorem match_any (l0 : List S47) (l1 : List S35) (A0 : Option Addr) (c0 : Nat) (A1 : Option Addr) (c1 : Nat) (w : World) (hr0 : Kd.C k47 w A0 l0.length l0) (hc0 : l0.length ≤ c0) (hr1 : Kd.C k35 w A1 l1.length l1) (hc1 : l1.length ≤ c1) (h0 : l0.length ≤ 4611686018427387904) (h1 : l1.length ≤ 4611686018427387904) :
    Calls Tryz.prog 45 #[.slice A1 l1.length c1, .func (.func 46) #[] #[.pointer (some ⟨w.heap.size, 0, none⟩)]] (w.alloc (.cells #[.slice A0 l0.length c0] 22)) fun e w' => e = .returned (.bool (l1.any fun m => !matchB l0 m)) ∧ Below (w.heap.size + 1) (w.alloc (.cells #[.slice A0 l0.length c0] 22)) w' := by
  have hb0 : Below w.heap.size w (w.alloc (.cells #[.slice A0 l0.length c0] 22)) := (Below.refl _ w).alloc (Nat.le_refl _) _
  have hcell : (w.alloc (.cells #[.slice A0 l0.length c0] 22)).cell? ⟨w.heap.size, 0, none⟩ = some (.slice A0 l0.length c0) := by rw [World.cell?_alloc_new]; rfl
  have hlt : w.heap.size < (w.alloc (.cells #[.slice A0 l0.length c0] 22)).heap.size := by rw [World.size_alloc]; exact Nat.lt_succ_self _
  have h := contains35 (fun m => !matchB l0 m) 46 #[.pointer (some ⟨w.heap.size, 0, none⟩)] (enters_of Tryz.func46 (by kernel_rfl) rfl) A1 c1 l1 (w.alloc (.cells #[.slice A0 l0.length c0] 22)) (Kd.C_below hr1 hb0) hc1 h1
    (fun W x hx hb => (match1 l0 A0 c0 w.heap.size x W (Nat.lt_of_lt_of_le hlt hb.size) ((hb.cell (p := ⟨w.heap.size, 0, none⟩) hlt).trans hcell) (Kd.C_below (Kd.C_below hr0 hb0) hb) hc0 h0).mono fun e w' ⟨he, h⟩ => ⟨he, hb.trans (h.mono hb.size)⟩)
  exact h.mono fun e w' ⟨he, hb⟩ => ⟨he, by rw [World.size_alloc] at hb; exact hb⟩
theorem labels_Match.calls (A0 : Option Addr) (c0 : Nat) (l0 : List (S47)) (A1 : Option Addr) (c1 : Nat) (l1 : List (S35)) (r : Bool) (w : World) (hr0 : Kd.C k47 w A0 l0.length l0) (hc0 : l0.length ≤ c0) (hr1 : Kd.C k35 w A1 l1.length l1) (hc1 : l1.length ≤ c1) (h : labels_Match.f l0 l1 = some r) :
    Calls Tryz.prog 20 #[.slice A0 l0.length c0, .slice A1 l1.length c1] w fun e w' => e = .returned (.bool r) ∧ Below w.heap.size w w' := by
  unfold labels_Match.f at h
  by_cases hm : l0.length ≤ 4611686018427387904 ∧ l1.length ≤ 4611686018427387904
  · rw [if_pos hm] at h
    have HH := Aside0.mk (Option.some.inj h)
    have HI := Aside0.mk (match_any l0 l1 A0 c0 A1 c1 w hr0 hc0 hr1 hc1 hm.1 hm.2)
    have HB0 := Aside0.mk ((Below.refl w.heap.size w).alloc (Nat.le_refl _) (.cells #[.slice A0 l0.length c0] 22))
    have HE := Aside0.mk (show (l1.any fun m => !matchB l0 m) = !(l1.all (matchB l0)) by simp [List.any_eq_not_all_not])
    clear h hr0 hr1 hm
    rw [HE.out] at HI
    go_enter Tryz.func20, Tryz.ntmps20
    go_wp2_with (go_at_call 45; refine HI.out.mono ?_; clear HI; rintro e w1 ⟨rfl, hb1⟩)
    go_ret
    exact ⟨by rw [← HH.out]; simp, HB0.out.trans (hb1.mono (by omega))⟩
  · rw [if_neg hm] at h; cases h
end Go.Proofs.YtmhilolgjcfhjaaGreat.X
