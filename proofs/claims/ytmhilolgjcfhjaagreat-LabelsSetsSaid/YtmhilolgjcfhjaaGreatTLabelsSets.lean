/- LabelsSets: its walk, and the plain law: it answers true. -/
import Derived.Test.YtmhilolgjcfhjaaGreatGA
import Derived.Test.YtmhilolgjcfhjaaGreatGI
import Derived.Test.YtmhilolgjcfhjaaGreatGL
import Derived.Test.YtmhilolgjcfhjaaGreatGK
import Derived.Test.YtmhilolgjcfhjaaGreatGG
import Derived.Test.YtmhilolgjcfhjaaGreatGE
import Derived.Test.YtmhilolgjcfhjaaGreatGM
set_option linter.unusedVariables false
set_option linter.unusedSimpArgs false

namespace Go.Proofs.YtmhilolgjcfhjaaGreat.X
open Go.RowKit Go.Proofs.YtmhilolgjcfhjaaGreatW.PrintWords Go.Proofs.YtmhilolgjcfhjaaGreatW.PrintLast Go.Proofs.YtmhilolgjcfhjaaGreatW.PrintMore
attribute [local go_sem] max2_int min2_int max_two min_two max_three min_three max_four min_four   -- for this text's walks alone
set_option linter.unusedVariables false
set_option linter.unusedSimpArgs false

/-! ### klaxonlaw09_LabelsSets: function 7 -/
mutual
def klaxonlaw09_LabelsSets.j0 : Nat → List (S47) → Int → List (S47) → Bool → Option (Bool)
  | 0, _, _, _, _ => none
  | k + 1, x0, x1, x2, x24 => if x24 = true then ((klaxonlaw09_live.f k).bind fun t302 => (some t302)) else (klaxonlaw09_LabelsSets.l0 k x0 x1 x2 ([] : List (S47)) 0)
def klaxonlaw09_LabelsSets.l0 : Nat → List (S47) → Int → List (S47) → List (S47) → Int → Option (Bool)
  | 0, _, _, _, _, _ => none
  | k + 1, x0, x1, x2, x7, x8 => if x8 < (x0.length : Int) then (if (x0.length : Int) = 0 then (none) else (if 0 ≤ (Int.tmod (wrap64 (x8 + (Int.tmod x1 (x0.length : Int)))) (x0.length : Int)) then (if (Int.tmod (wrap64 (x8 + (Int.tmod x1 (x0.length : Int)))) (x0.length : Int)) < (x0.length : Int) then (if x7.length < 4398046511104 then (klaxonlaw09_LabelsSets.l0 k x0 x1 x2 (x7 ++ [(⟨(rd_T47 x0 (Int.tmod (wrap64 (x8 + (Int.tmod x1 (x0.length : Int)))) (x0.length : Int))).f0, (rd_T47 x0 (Int.tmod (wrap64 (x8 + (Int.tmod x1 (x0.length : Int)))) (x0.length : Int))).f1⟩ : S47)]) (wrap64 (x8 + 1))) else (none)) else (none)) else (none))) else ((klaxonlaw09_own.f x0).bind fun t307 => ((labels_Make.f t307).bind fun bt310 => ((labels_Make.f x7).bind fun bt314 => ((klaxonref09_Same.f k bt310.1 bt314.1).bind fun t318 => (if t318 = true then ((klaxonlaw09_num.f bt310.2).bind fun t319 => ((klaxonlaw09_num.f bt314.2).bind fun t320 => (klaxonlaw09_LabelsSets.j2 k x2 bt310.1 bt310.2 ((t319 == 0) != (t320 == 0))))) else (klaxonlaw09_LabelsSets.j2 k x2 bt310.1 bt310.2 true))))))
def klaxonlaw09_LabelsSets.j2 : Nat → List (S47) → List (S47) → Int → Bool → Option (Bool)
  | 0, _, _, _, _ => none
  | k + 1, x2, x9, x10, x70 => if x70 = true then (some false) else ((klaxonlaw09_num.f x10).bind fun t321 => (if t321 = 0 then ((klaxonref09_Set.f x9).bind fun t323 => (if t323 = true then ((labels_Key.f x9).bind fun t324 => ((labels_Key.f x2).bind fun t325 => ((klaxonref09_Same.f k x9 x2).bind fun t326 => (if ((t324.toList == t325.toList) == t326) = true then ((labels_Compare.f x9 x2).bind fun t327 => ((klaxonref09_Same.f k x9 x2).bind fun t328 => (if ((t327 == 0) == t328) = true then ((labels_Compare.f x9 x2).bind fun t329 => ((labels_Compare.f x2 x9).bind fun t330 => (if t329 = (wrap64 (-t330)) then ((klaxonlaw09_live.f k).bind fun t331 => (some t331)) else (some false)))) else (some false)))) else (some false))))) else (some false))) else (if (x9.length : Int) = 0 then ((klaxonlaw09_live.f k).bind fun t322 => (some t322)) else (some false))))
end
def klaxonlaw09_LabelsSets.f (k : Nat) (l0 : List (S47)) (a1 : Int) (l2 : List (S47)) : Option (Bool) := (klaxonlaw09_small.f k l0).bind fun t300 => (if t300 = true then ((klaxonref09_Set.f l2).bind fun t301 => (if t301 = true then (klaxonlaw09_LabelsSets.j0 k l0 a1 l2 (decide (a1 < 0))) else (klaxonlaw09_LabelsSets.j0 k l0 a1 l2 true))) else (klaxonlaw09_LabelsSets.j0 k l0 a1 l2 true))
theorem klaxonlaw09_LabelsSets.mono_l : ∀ k, (∀ y0 y1 y2 y3, LeO (klaxonlaw09_LabelsSets.j0 k y0 y1 y2 y3) (klaxonlaw09_LabelsSets.j0 (k + 1) y0 y1 y2 y3)) ∧ (∀ y0 y1 y2 y3 y4, LeO (klaxonlaw09_LabelsSets.l0 k y0 y1 y2 y3 y4) (klaxonlaw09_LabelsSets.l0 (k + 1) y0 y1 y2 y3 y4)) ∧ (∀ y0 y1 y2 y3, LeO (klaxonlaw09_LabelsSets.j2 k y0 y1 y2 y3) (klaxonlaw09_LabelsSets.j2 (k + 1) y0 y1 y2 y3))
  | 0 => ⟨fun _ _ _ _ r h => by simp [klaxonlaw09_LabelsSets.j0] at h, fun _ _ _ _ _ r h => by simp [klaxonlaw09_LabelsSets.l0] at h, fun _ _ _ _ r h => by simp [klaxonlaw09_LabelsSets.j2] at h⟩
  | k + 1 => by
    obtain ⟨ih0, ih1, ih2⟩ := klaxonlaw09_LabelsSets.mono_l k
    refine ⟨?_, ?_, ?_⟩
    · intro y0 y1 y2 y3
      unfold klaxonlaw09_LabelsSets.j0
      repeat' first
      | (with_reducible exact ih0 _ _ _ _)
      | (with_reducible exact ih1 _ _ _ _ _)
      | (with_reducible exact ih2 _ _ _ _)
      | (with_reducible exact klaxonlaw09_live.mono _)
      | (with_reducible exact klaxonlaw09_small.mono _ _)
      | (with_reducible exact klaxonref09_Same.mono _ _ _)
      | (with_reducible exact LeO.refl _)
      | (with_reducible exact LeO.none _)
      | (with_reducible refine LeO.ite ?_ ?_)
      | (with_reducible refine LeO.bind ?_ (fun _ => ?_))
      | exact ih0 _ _ _ _
      | exact ih1 _ _ _ _ _
      | exact ih2 _ _ _ _
      | exact klaxonlaw09_live.mono _
      | exact klaxonlaw09_small.mono _ _
      | exact klaxonref09_Same.mono _ _ _
      | exact LeO.none _
      | refine LeO.ite ?_ ?_
      | refine LeO.bind ?_ (fun _ => ?_)
    · intro y0 y1 y2 y3 y4
      unfold klaxonlaw09_LabelsSets.l0
      repeat' first
      | (with_reducible exact ih0 _ _ _ _)
      | (with_reducible exact ih1 _ _ _ _ _)
      | (with_reducible exact ih2 _ _ _ _)
      | (with_reducible exact klaxonlaw09_live.mono _)
      | (with_reducible exact klaxonlaw09_small.mono _ _)
      | (with_reducible exact klaxonref09_Same.mono _ _ _)
      | (with_reducible exact LeO.refl _)
      | (with_reducible exact LeO.none _)
      | (with_reducible refine LeO.ite ?_ ?_)
      | (with_reducible refine LeO.bind ?_ (fun _ => ?_))
      | exact ih0 _ _ _ _
      | exact ih1 _ _ _ _ _
      | exact ih2 _ _ _ _
      | exact klaxonlaw09_live.mono _
      | exact klaxonlaw09_small.mono _ _
      | exact klaxonref09_Same.mono _ _ _
      | exact LeO.none _
      | refine LeO.ite ?_ ?_
      | refine LeO.bind ?_ (fun _ => ?_)
    · intro y0 y1 y2 y3
      unfold klaxonlaw09_LabelsSets.j2
      repeat' first
      | (with_reducible exact ih0 _ _ _ _)
      | (with_reducible exact ih1 _ _ _ _ _)
      | (with_reducible exact ih2 _ _ _ _)
      | (with_reducible exact klaxonlaw09_live.mono _)
      | (with_reducible exact klaxonlaw09_small.mono _ _)
      | (with_reducible exact klaxonref09_Same.mono _ _ _)
      | (with_reducible exact LeO.refl _)
      | (with_reducible exact LeO.none _)
      | (with_reducible refine LeO.ite ?_ ?_)
      | (with_reducible refine LeO.bind ?_ (fun _ => ?_))
      | exact ih0 _ _ _ _
      | exact ih1 _ _ _ _ _
      | exact ih2 _ _ _ _
      | exact klaxonlaw09_live.mono _
      | exact klaxonlaw09_small.mono _ _
      | exact klaxonref09_Same.mono _ _ _
      | exact LeO.none _
      | refine LeO.ite ?_ ?_
      | refine LeO.bind ?_ (fun _ => ?_)
theorem klaxonlaw09_LabelsSets.mono : ∀ a0 a1 a2 k, LeO (klaxonlaw09_LabelsSets.f k a0 a1 a2) (klaxonlaw09_LabelsSets.f (k + 1) a0 a1 a2) := by
  intro a0 a1 a2 k
  obtain ⟨ih0, ih1, ih2⟩ := klaxonlaw09_LabelsSets.mono_l k
  unfold klaxonlaw09_LabelsSets.f
  repeat' first
      | (with_reducible exact ih0 _ _ _ _)
      | (with_reducible exact ih1 _ _ _ _ _)
      | (with_reducible exact ih2 _ _ _ _)
      | (with_reducible exact klaxonlaw09_live.mono _)
      | (with_reducible exact klaxonlaw09_small.mono _ _)
      | (with_reducible exact klaxonref09_Same.mono _ _ _)
      | (with_reducible exact LeO.refl _)
      | (with_reducible exact LeO.none _)
      | (with_reducible refine LeO.ite ?_ ?_)
      | (with_reducible refine LeO.bind ?_ (fun _ => ?_))
      | exact ih0 _ _ _ _
      | exact ih1 _ _ _ _ _
      | exact ih2 _ _ _ _
      | exact klaxonlaw09_live.mono _
      | exact klaxonlaw09_small.mono _ _
      | exact klaxonref09_Same.mono _ _ _
      | exact LeO.none _
      | refine LeO.ite ?_ ?_
      | refine LeO.bind ?_ (fun _ => ?_)
set_option maxHeartbeats 8000000 in
set_option maxRecDepth 100000 in
theorem klaxonlaw09_LabelsSets.calls (k : Nat) (A0 : Option Addr) (c0 : Nat) (l0 : List (S47)) (a1 : Int) (A2 : Option Addr) (c2 : Nat) (l2 : List (S47)) (r : Bool) (hrt : r = true) (w : World) (hr0 : Kd.C k47 w A0 l0.length l0) (hc0 : l0.length ≤ c0) (hr2 : Kd.C k47 w A2 l2.length l2) (hc2 : l2.length ≤ c2) (h : klaxonlaw09_LabelsSets.f k l0 a1 l2 = some r) :
    Calls Tryz.prog 7 #[.slice A0 l0.length c0, .int .i64 a1, .slice A2 l2.length c2] w fun e w' => e = .returned (.bool r) ∧ Below w.heap.size w w' := by
  have HRT := Aside0.mk hrt
  clear hrt
  have hu47 := Tryz.underlying47
  have HR0 := Aside0.mk hr0
  have HC0 := Aside0.mk hc0
  clear hr0 hc0
  have HR2 := Aside0.mk hr2
  have HC2 := Aside0.mk hc2
  clear hr2 hc2
  have HB := Aside0.mk (Below.refl w.heap.size w)
  have H : ((klaxonlaw09_small.f k l0).bind fun t300 => (if t300 = true then ((klaxonref09_Set.f l2).bind fun t301 => (if t301 = true then (klaxonlaw09_LabelsSets.j0 k l0 a1 l2 (decide (a1 < 0))) else (klaxonlaw09_LabelsSets.j0 k l0 a1 l2 true))) else (klaxonlaw09_LabelsSets.j0 k l0 a1 l2 true))) = some r := h
  clear h
  have HC4 := Aside0.mk H
  clear H
  go_enter Tryz.func7, Tryz.ntmps7
  go_upto_region 1 with (fail)
  go_cut [24] (fun v24 wc => ∃ (kq : Nat) (x24_3 : Bool), v24 = .bool x24_3 ∧ Aside0 (klaxonlaw09_LabelsSets.j0 kq l0 a1 l2 x24_3 = some r) ∧ Aside0 (kq ≤ k) ∧ Aside0 (Below w.heap.size w wc))
  case first =>
    have H := HC4.out
    clear HC4
    replace H := Option.bind_eq_some_iff.mp H
    obtain ⟨t300, A50, H⟩ := H
    replace H : (if t300 = true then ((klaxonref09_Set.f l2).bind fun t301 => (if t301 = true then (klaxonlaw09_LabelsSets.j0 k l0 a1 l2 (decide (a1 < 0))) else (klaxonlaw09_LabelsSets.j0 k l0 a1 l2 true))) else (klaxonlaw09_LabelsSets.j0 k l0 a1 l2 true)) = some r := H
    have A5 := Aside0.mk A50
    clear A50
    by_cases c6 : t300 = true
    · subst c6
      have H1 : ((klaxonref09_Set.f l2).bind fun t301 => (if t301 = true then (klaxonlaw09_LabelsSets.j0 k l0 a1 l2 (decide (a1 < 0))) else (klaxonlaw09_LabelsSets.j0 k l0 a1 l2 true))) = some r := by rw [if_pos rfl] at H; exact H
      clear H
      have H := H1
      clear H1
      replace H := Option.bind_eq_some_iff.mp H
      obtain ⟨t301, A70, H⟩ := H
      replace H : (if t301 = true then (klaxonlaw09_LabelsSets.j0 k l0 a1 l2 (decide (a1 < 0))) else (klaxonlaw09_LabelsSets.j0 k l0 a1 l2 true)) = some r := H
      have A7 := Aside0.mk A70
      clear A70
      by_cases c8 : t301 = true
      · subst c8
        have H1 : (klaxonlaw09_LabelsSets.j0 k l0 a1 l2 (decide (a1 < 0))) = some r := by rw [if_pos rfl] at H; exact H
        clear H
        have H := H1
        clear H1
        have H' := Aside0.mk H
        clear H
        go_wp2_with (first | ((with_reducible refine gate_callee (f := 10) rfl ?_); refine goesL_ (some 14) rfl rfl Tryz.func10 (by kernel_rfl) rfl #[.slice A0 l0.length c0] rfl (by (try simp only [List.map_toArray, List.map_cons, List.map_nil]); first | done | rfl | (simp only [List.length_drop, List.length_take]; rfl)) ?_; (with_reducible refine (klaxonlaw09_small.calls k _ _ l0 true _ ?side1 ?side2 A5.out).mono ?_); (case side1 => repeat (first | exact (Kd.C_below HR0.out HB.out) | (with_reducible refine Kd.C_alloc ?_ _) | (with_reducible refine Kd.C_drewN ?_ _) | (with_reducible refine Kd.C_drew ?_))); (case side2 => exact HC0.out); rintro e w' ⟨rfl, ⟨nd, rfl⟩⟩; refine ⟨_, rfl, ?_⟩) | (go_at_call 17; (with_reducible refine (klaxonref09_Set.calls _ _ l2 true _ ?side1 ?side2 A7.out).mono ?_); (case side1 => repeat (first | exact (Kd.C_below HR2.out (by repeat (first | (with_reducible first | exact HB.out | apply below_alloc | apply pw_below_drewN | apply below_drew1) | exact HB.out))) | (with_reducible refine Kd.C_alloc ?_ _) | (with_reducible refine Kd.C_drewN ?_ _) | (with_reducible refine Kd.C_drew ?_))); (case side2 => exact HC2.out); rintro e w9 ⟨rfl, hb⟩; have n0_ := Aside0.mk (below_step (by repeat (first | (with_reducible first | exact HB.out | apply below_alloc | apply pw_below_drewN | apply below_drew1) | exact HB.out)) hb); clear HB; have HB := n0_; clear n0_; (try clear hb); (try clear hb2); (try clear hk); (try clear hi)))
        go_meet
        case rel => exact ⟨_, (decide (a1 < 0)), (by first | rfl | (simp; done) | (simp [*]; done)), H', ⟨by first | omega | exact Nat.le_refl _⟩, ⟨by repeat (first | (with_reducible first | exact HB.out | apply below_alloc | apply pw_below_drewN | apply below_drew1) | exact HB.out)⟩⟩
      · replace c8 := Bool.eq_false_iff.mpr c8
        subst c8
        have H1 : (klaxonlaw09_LabelsSets.j0 k l0 a1 l2 true) = some r := by rw [if_neg (show ¬ (false = true) by decide)] at H; exact H
        clear H
        have H := H1
        clear H1
        have H' := Aside0.mk H
        clear H
        go_wp2_with (first | ((with_reducible refine gate_callee (f := 10) rfl ?_); refine goesL_ (some 14) rfl rfl Tryz.func10 (by kernel_rfl) rfl #[.slice A0 l0.length c0] rfl (by (try simp only [List.map_toArray, List.map_cons, List.map_nil]); first | done | rfl | (simp only [List.length_drop, List.length_take]; rfl)) ?_; (with_reducible refine (klaxonlaw09_small.calls k _ _ l0 true _ ?side1 ?side2 A5.out).mono ?_); (case side1 => repeat (first | exact (Kd.C_below HR0.out HB.out) | (with_reducible refine Kd.C_alloc ?_ _) | (with_reducible refine Kd.C_drewN ?_ _) | (with_reducible refine Kd.C_drew ?_))); (case side2 => exact HC0.out); rintro e w' ⟨rfl, ⟨nd, rfl⟩⟩; refine ⟨_, rfl, ?_⟩) | (go_at_call 17; (with_reducible refine (klaxonref09_Set.calls _ _ l2 false _ ?side1 ?side2 A7.out).mono ?_); (case side1 => repeat (first | exact (Kd.C_below HR2.out (by repeat (first | (with_reducible first | exact HB.out | apply below_alloc | apply pw_below_drewN | apply below_drew1) | exact HB.out))) | (with_reducible refine Kd.C_alloc ?_ _) | (with_reducible refine Kd.C_drewN ?_ _) | (with_reducible refine Kd.C_drew ?_))); (case side2 => exact HC2.out); rintro e w10 ⟨rfl, hb⟩; have n0_ := Aside0.mk (below_step (by repeat (first | (with_reducible first | exact HB.out | apply below_alloc | apply pw_below_drewN | apply below_drew1) | exact HB.out)) hb); clear HB; have HB := n0_; clear n0_; (try clear hb); (try clear hb2); (try clear hk); (try clear hi)))
        go_meet
        case rel => exact ⟨_, (true), (by first | rfl | (simp; done) | (simp [*]; done)), H', ⟨by first | omega | exact Nat.le_refl _⟩, ⟨by repeat (first | (with_reducible first | exact HB.out | apply below_alloc | apply pw_below_drewN | apply below_drew1) | exact HB.out)⟩⟩
    · replace c6 := Bool.eq_false_iff.mpr c6
      subst c6
      have H1 : (klaxonlaw09_LabelsSets.j0 k l0 a1 l2 true) = some r := by rw [if_neg (show ¬ (false = true) by decide)] at H; exact H
      clear H
      have H := H1
      clear H1
      have H' := Aside0.mk H
      clear H
      go_wp2_with (first | ((with_reducible refine gate_callee (f := 10) rfl ?_); refine goesL_ (some 14) rfl rfl Tryz.func10 (by kernel_rfl) rfl #[.slice A0 l0.length c0] rfl (by (try simp only [List.map_toArray, List.map_cons, List.map_nil]); first | done | rfl | (simp only [List.length_drop, List.length_take]; rfl)) ?_; (with_reducible refine (klaxonlaw09_small.calls k _ _ l0 false _ ?side1 ?side2 A5.out).mono ?_); (case side1 => repeat (first | exact (Kd.C_below HR0.out HB.out) | (with_reducible refine Kd.C_alloc ?_ _) | (with_reducible refine Kd.C_drewN ?_ _) | (with_reducible refine Kd.C_drew ?_))); (case side2 => exact HC0.out); rintro e w' ⟨rfl, ⟨nd, rfl⟩⟩; refine ⟨_, rfl, ?_⟩))
      go_meet
      case rel => exact ⟨_, (true), (by first | rfl | (simp; done) | (simp [*]; done)), H', ⟨by first | omega | exact Nat.le_refl _⟩, ⟨by repeat (first | (with_reducible first | exact HB.out | apply below_alloc | apply pw_below_drewN | apply below_drew1) | exact HB.out)⟩⟩
  case rest =>
    clear HC4
    try clear c1
    try clear c2
    try clear p2
    try clear c6
    try clear c7
    try clear c8
    try clear c10
    obtain ⟨kq, x24_3, rfl, HA, HJ3, HB⟩ := hcut
    cases kq with
    | zero => exact absurd HA.out (by simp [klaxonlaw09_LabelsSets.j0])
    | succ kj3 =>
      have H := HA.out
      clear HA
      simp only [klaxonlaw09_LabelsSets.j0] at H
      by_cases c11 : x24_3 = true
      · subst c11
        have H1 : ((klaxonlaw09_live.f kj3).bind fun t302 => (some t302)) = some r := by rw [if_pos rfl] at H; exact H
        clear H
        have H := H1
        clear H1
        replace H := Option.bind_eq_some_iff.mp H
        obtain ⟨t302, A120, H⟩ := H
        replace H : (some t302) = some r := H
        have A12 := Aside0.mk A120
        clear A120
        obtain rfl := Option.some.inj H
        go_wp2_with (first | ((with_reducible refine gate_callee (f := 11) rfl ?_); refine goesL_ (some 25) rfl rfl Tryz.func11 (by kernel_rfl) rfl #[] rfl (by (try simp only [List.map_toArray, List.map_cons, List.map_nil]); first | done | rfl | (simp only [List.length_drop, List.length_take]; rfl)) ?_; (with_reducible refine (klaxonlaw09_live.calls kj3  t302 _ A12.out).mono ?_); rintro e w13 ⟨rfl, hb⟩; refine ⟨_, rfl, ?_⟩; have n0_ := Aside0.mk (below_step (by repeat (first | (with_reducible first | exact HB.out | apply below_alloc | apply pw_below_drewN | apply below_drew1) | exact HB.out)) hb); clear HB; have HB := n0_; clear n0_; (try clear hb); (try clear hb2); (try clear hk); (try clear hi)))
        go_ret
        exact ⟨by first | rfl | (simp [errW_none, errW_some] <;> rfl) | (simp [*, errW_none, errW_some] <;> rfl), by repeat (first | (with_reducible first | exact HB.out | apply below_alloc | apply pw_below_drewN | apply below_drew1) | exact HB.out)⟩
      · replace c11 := Bool.eq_false_iff.mpr c11
        subst c11
        have H1 : (klaxonlaw09_LabelsSets.l0 kj3 l0 a1 l2 ([] : List (S47)) 0) = some r := by rw [if_neg (show ¬ (false = true) by decide)] at H; exact H
        clear H
        have H := H1
        clear H1
        have H' := Aside0.mk H
        clear H
        go_wp2
        go_loopg [7, 8] kj3 (fun kq v7 v8 w' => ∃ (x7_2 : List (S47)) (x8_2 : Int), v8 = .int .i64 x8_2 ∧ Aside0 (klaxonlaw09_LabelsSets.l0 kq l0 a1 l2 x7_2 x8_2 = some r) ∧ Aside0 (kq ≤ kj3) ∧ Aside0 (Kd.R k47 47 w' w.heap.size (fun _ => True) v7 x7_2) ∧ Aside0 (Below w.heap.size w w'))
        case atStart => exact ⟨(([] : List (S47))), (0), (by first | rfl | (simp; done) | (simp [*]; done)), H', ⟨Nat.le_refl _⟩, ⟨by first | exact Kd.R_nil _ _ _ _ _ | exact Kd.N_nil _ _ _ _ _ | exact Kd.V_nil _ _ _ _ _ | exact Kd.Q_nil _ _ _ _ _ | exact Kd.S_nil _ _ _ _ _⟩, ⟨by repeat (first | (with_reducible first | exact HB.out | apply below_alloc | apply pw_below_drewN | apply below_drew1) | exact HB.out)⟩⟩
        case round =>
          clear H'
          try clear c1
          try clear c2
          try clear p2
          try clear c6
          try clear c7
          try clear c8
          try clear c10
          try clear c11
          try clear p2
          obtain ⟨x7_2, x8_2, rfl, HA, HK2, HO_7, HB⟩ := hrel
          cases gk with
          | zero => exact absurd HA.out (by simp [klaxonlaw09_LabelsSets.l0])
          | succ k2 =>
            have H := HA.out
            clear HA
            simp only [klaxonlaw09_LabelsSets.l0] at H
            by_cases c14 : x8_2 < (l0.length : Int)
            · rw [if_pos c14] at H
              have c14b0 : decide (x8_2 < (l0.length : Int)) = true := decide_eq_true c14
              clear c14
              by_cases c15 : (l0.length : Int) = 0
              · rw [if_pos c15] at H
                exact absurd H (by simp)
              · rw [if_neg c15] at H
                have c15b0 : ((l0.length : Int) == 0) = false := beq_eq_false_iff_ne.mpr c15
                have c15b1 : ((l0.length : Int) != 0) = true := bne_iff_ne.mpr c15
                have c15b2 : ¬ (l0 = []) := fun h_ => c15 (by rw [h_]; rfl)
                obtain ⟨ji16, hji16⟩ : ∃ j_ : Int, (Int.tmod (wrap64 (x8_2 + (Int.tmod a1 (l0.length : Int)))) (l0.length : Int)) = j_ := ⟨_, rfl⟩
                replace H : (if 0 ≤ (ji16) then (if (ji16) < (l0.length : Int) then (if x7_2.length < 4398046511104 then (klaxonlaw09_LabelsSets.l0 k2 l0 a1 l2 (x7_2 ++ [(⟨(rd_T47 l0 (ji16)).f0, (rd_T47 l0 (ji16)).f1⟩ : S47)]) (wrap64 (x8_2 + 1))) else (none)) else (none)) else (none)) = some r := by first | (rw [hji16] at H; exact H) | (simp only [hji16] at H ⊢; exact H)
                by_cases c17 : 0 ≤ (ji16)
                · rw [if_pos c17] at H
                  have c17b0 : decide (0 ≤ (ji16)) = true := decide_eq_true c17
                  clear c17
                  by_cases c18 : (ji16) < (l0.length : Int)
                  · rw [if_pos c18] at H
                    have c18b0 : decide ((ji16) < (l0.length : Int)) = true := decide_eq_true c18
                    clear c18
                    by_cases c19 : x7_2.length < 4398046511104
                    · rw [if_pos c19] at H
                      have LMc19 := Aside0.mk c19
                      clear c19
                      obtain ⟨y304, hy304⟩ : ∃ y_ : List (S47), y_ = (x7_2 ++ [(⟨(rd_T47 l0 (ji16)).f0, (rd_T47 l0 (ji16)).f1⟩ : S47)]) := ⟨_, rfl⟩
                      replace H : (klaxonlaw09_LabelsSets.l0 k2 l0 a1 l2 y304 (wrap64 (x8_2 + 1))) = some r := by first | (rw [hy304]; with_reducible exact H) | (have H2_ := (Option.bind_some _ _).symm.trans H; rw [hy304]; with_reducible exact H2_) | (have H2_ := (Option.bind_some _ _).symm.trans H; with_reducible exact H2_) | with_reducible exact H | (rw [hy304]; exact H) | exact H
                      have Ny304 := Aside0.mk hy304
                      clear hy304
                      have H' := Aside0.mk H
                      clear H
                      have p303 : 0 ≤ ((ji16) : Int) := of_decide_eq_true (by first | (with_reducible assumption) | assumption)
                      have q303 : (ji16) < (l0.length : Int) := of_decide_eq_true (by first | (with_reducible assumption) | assumption)
                      obtain ⟨ad303, e303, hx303_0, hx303_1⟩ := at_T47 HR0.out (ji16) p303 q303
                      cases e303
                      replace hx303_0 := (HB.out.cell (World.block_lt_of_cell? w _ hx303_0)).trans hx303_0
                      replace hx303_1 := (HB.out.cell (World.block_lt_of_cell? w _ hx303_1)).trans hx303_1
                      replace p303 := eq_true p303
                      replace q303 := eq_true q303
                      go_wp2_with (first | ((with_reducible refine gate_builtin (b := .append) (xs := #[.tmp 32, .tmp 45]) rfl ?_); at_builtin; refine Kd.R_append k47 (w0 := w) w.heap.size rfl (.tmp 32) (.tmp 45) 22 47 (.agg #[(.string ⟨#[]⟩), (.string ⟨#[]⟩)]) 32 rfl Tryz.underlying22 info47 rfl (by decide) (by omega) u7 x7_2 (⟨(rd_T47 l0 (ji16)).f0, (rd_T47 l0 (ji16)).f1⟩ : S47) [.string ((rd_T47 l0 (ji16)).f0), .string ((rd_T47 l0 (ji16)).f1)] (fun _ => True) (fun _ => False) rfl rfl ?aP (fun _ hk => hk.elim) ?aF ?aO ?aB ?aS ?aL ?_; (case aP => exact k47_mkM _ _ _ (⟨(rd_T47 l0 (ji16)).f0, (rd_T47 l0 (ji16)).f1⟩ : S47)); (case aB => exact (by repeat (first | (with_reducible first | exact HB.out | apply below_alloc | apply pw_below_drewN | apply below_drew1) | exact HB.out))); (case aF => exact (fun _ _ => trivial)); (case aO => exact (by (with_reducible repeat (first | apply Kd.R_alloc | apply Kd.R_drewN | apply Kd.R_drew)); exact HO_7.out)); (case aS => exact (below_size (by repeat (first | (with_reducible first | exact HB.out | apply below_alloc | apply pw_below_drewN | apply below_drew1) | exact HB.out)))); (case aL => have := LMc19.out; omega); intro v305 w20 ho hb hg hat; rw [← Ny304.out] at ho; have n0_ := Aside0.mk (hb); have n1_ := Aside0.mk (ho); clear HB; clear HO_7; have HB := n0_; have HO306 := n1_; clear n0_ n1_; clear ho hb hg hat))
                      go_roundg k2
                      case measure => have := HJ3.out; have := HK2.out; omega
                      case rel => exact ⟨(y304), (wrap64 (x8_2 + 1)), (by first | rfl | (simp; done) | (simp [*]; done)), H', ⟨by have := HJ3.out; have := HK2.out; omega⟩, ⟨by (with_reducible repeat (first | apply Kd.R_alloc | apply Kd.R_drewN | apply Kd.R_drew)); exact HO306.out⟩, ⟨by repeat (first | (with_reducible first | exact HB.out | apply below_alloc | apply pw_below_drewN | apply below_drew1) | exact HB.out)⟩⟩
                    · rw [if_neg c19] at H
                      exact absurd H (by simp)
                  · rw [if_neg c18] at H
                    exact absurd H (by simp)
                · rw [if_neg c17] at H
                  exact absurd H (by simp)
            · rw [if_neg c14] at H
              have c14b0 : decide (x8_2 < (l0.length : Int)) = false := decide_eq_false c14
              clear c14
              replace H := Option.bind_eq_some_iff.mp H
              obtain ⟨t307, A210, H⟩ := H
              replace H : ((labels_Make.f t307).bind fun bt310 => ((labels_Make.f x7_2).bind fun bt314 => ((klaxonref09_Same.f k2 bt310.1 bt314.1).bind fun t318 => (if t318 = true then ((klaxonlaw09_num.f bt310.2).bind fun t319 => ((klaxonlaw09_num.f bt314.2).bind fun t320 => (klaxonlaw09_LabelsSets.j2 k2 l2 bt310.1 bt310.2 ((t319 == 0) != (t320 == 0))))) else (klaxonlaw09_LabelsSets.j2 k2 l2 bt310.1 bt310.2 true))))) = some r := H
              have A21 := Aside0.mk A210
              clear A210
              replace H := Option.bind_eq_some_iff.mp H
              obtain ⟨⟨t310, t311⟩, A220, H⟩ := H
              replace H : ((labels_Make.f x7_2).bind fun bt314 => ((klaxonref09_Same.f k2 t310 bt314.1).bind fun t318 => (if t318 = true then ((klaxonlaw09_num.f t311).bind fun t319 => ((klaxonlaw09_num.f bt314.2).bind fun t320 => (klaxonlaw09_LabelsSets.j2 k2 l2 t310 t311 ((t319 == 0) != (t320 == 0))))) else (klaxonlaw09_LabelsSets.j2 k2 l2 t310 t311 true)))) = some r := H
              have A22 := Aside0.mk A220
              clear A220
              replace H := Option.bind_eq_some_iff.mp H
              obtain ⟨⟨t314, t315⟩, A230, H⟩ := H
              replace H : ((klaxonref09_Same.f k2 t310 t314).bind fun t318 => (if t318 = true then ((klaxonlaw09_num.f t311).bind fun t319 => ((klaxonlaw09_num.f t315).bind fun t320 => (klaxonlaw09_LabelsSets.j2 k2 l2 t310 t311 ((t319 == 0) != (t320 == 0))))) else (klaxonlaw09_LabelsSets.j2 k2 l2 t310 t311 true))) = some r := H
              have A23 := Aside0.mk A230
              clear A230
              have HC24 := Aside0.mk H
              clear H
              go_upto_region 10 with (first | ((with_reducible refine gate_callee (f := 13) rfl ?_); refine goesL_ (some 49) rfl rfl Tryz.func13 (by kernel_rfl) rfl #[.slice A0 l0.length c0] rfl (by (try simp only [List.map_toArray, List.map_cons, List.map_nil]); first | done | rfl | (simp only [List.length_drop, List.length_take]; rfl)) ?_; (with_reducible refine (klaxonlaw09_own.calls _ _ l0 t307 _ ?side1 ?side2 A21.out).mono ?_); (case side1 => repeat (first | exact (Kd.C_below HR0.out HB.out) | (with_reducible refine Kd.C_alloc ?_ _) | (with_reducible refine Kd.C_drewN ?_ _) | (with_reducible refine Kd.C_drew ?_))); (case side2 => exact HC0.out); rintro e w25 ⟨v308, rfl, ho0, hb⟩; refine ⟨_, rfl, ?_⟩; have n0_ := Aside0.mk (Kd.R_elder' (by (with_reducible repeat (first | apply Kd.R_alloc | apply Kd.R_drewN | apply Kd.R_drew)); exact HO_7.out) (Kd.R_base ho0) hb); have n1_ := Aside0.mk (Kd.R_lower (Kd.R_new' ho0 (Kd.R_lt (by (with_reducible repeat (first | apply Kd.R_alloc | apply Kd.R_drewN | apply Kd.R_drew)); exact HO_7.out))) (below_size (by repeat (first | (with_reducible first | exact HB.out | apply below_alloc | apply pw_below_drewN | apply below_drew1) | exact HB.out)))); have n2_ := Aside0.mk (below_step (by repeat (first | (with_reducible first | exact HB.out | apply below_alloc | apply pw_below_drewN | apply below_drew1) | exact HB.out)) hb); clear HO_7; clear HB; have HO_7 := n0_; have HO309 := n1_; have HB := n2_; clear n0_ n1_ n2_; (try clear hb); (try clear hb2); (try clear hk); (try clear hi); (try clear ho0); obtain ⟨Ao26, co26, eo26⟩ := Kd.R_slice HO309.out; subst eo26) | ((with_reducible refine gate_callee (f := 12) rfl ?_); refine goesL_ (some 50) rfl rfl Tryz.func12 (by kernel_rfl) rfl #[.slice Ao26 t307.length co26] rfl (by (try simp only [List.map_toArray, List.map_cons, List.map_nil]); first | done | rfl | (simp only [List.length_drop, List.length_take]; rfl)) ?_; (with_reducible refine (labels_Make.calls _ _ t307 t310 t311 _ ?side1 ?side2 A22.out).mono ?_); (case side1 => repeat (first | exact (Kd.R_reads' HO309.out).2.2 | (with_reducible refine Kd.C_alloc ?_ _) | (with_reducible refine Kd.C_drewN ?_ _) | (with_reducible refine Kd.C_drew ?_))); (case side2 => exact (Kd.R_reads' HO309.out).2.1); rintro e w27 ⟨v312, rfl, ho0, hb⟩; refine ⟨_, rfl, ?_⟩; have n0_ := Aside0.mk (Kd.R_elder' (by (with_reducible repeat (first | apply Kd.R_alloc | apply Kd.R_drewN | apply Kd.R_drew)); exact HO_7.out) (Kd.R_base ho0) hb); have n1_ := Aside0.mk (Kd.R_elder' (by (with_reducible repeat (first | apply Kd.R_alloc | apply Kd.R_drewN | apply Kd.R_drew)); exact HO309.out) (Kd.R_base ho0) hb); have n2_ := Aside0.mk (Kd.R_lower (Kd.R_new' (Kd.R_new' ho0 (Kd.R_lt (by (with_reducible repeat (first | apply Kd.R_alloc | apply Kd.R_drewN | apply Kd.R_drew)); exact HO_7.out))) (Kd.R_lt (by (with_reducible repeat (first | apply Kd.R_alloc | apply Kd.R_drewN | apply Kd.R_drew)); exact HO309.out))) (below_size (by repeat (first | (with_reducible first | exact HB.out | apply below_alloc | apply pw_below_drewN | apply below_drew1) | exact HB.out)))); have n3_ := Aside0.mk (below_step (by repeat (first | (with_reducible first | exact HB.out | apply below_alloc | apply pw_below_drewN | apply below_drew1) | exact HB.out)) hb); clear HO_7; clear HO309; clear HB; have HO_7 := n0_; have HO309 := n1_; have HO313 := n2_; have HB := n3_; clear n0_ n1_ n2_ n3_; (try clear hb); (try clear hb2); (try clear hk); (try clear hi); (try clear ho0); obtain ⟨Ao28, co28, eo28⟩ := Kd.R_slice HO_7.out; subst eo28) | ((with_reducible refine gate_callee (f := 12) rfl ?_); refine goesL_ (some 55) rfl rfl Tryz.func12 (by kernel_rfl) rfl #[.slice Ao28 x7_2.length co28] rfl (by (try simp only [List.map_toArray, List.map_cons, List.map_nil]); first | done | rfl | (simp only [List.length_drop, List.length_take]; rfl)) ?_; (with_reducible refine (labels_Make.calls _ _ x7_2 t314 t315 _ ?side1 ?side2 A23.out).mono ?_); (case side1 => repeat (first | exact (Kd.R_reads' HO_7.out).2.2 | (with_reducible refine Kd.C_alloc ?_ _) | (with_reducible refine Kd.C_drewN ?_ _) | (with_reducible refine Kd.C_drew ?_))); (case side2 => exact (Kd.R_reads' HO_7.out).2.1); rintro e w29 ⟨v316, rfl, ho0, hb⟩; refine ⟨_, rfl, ?_⟩; have n0_ := Aside0.mk (Kd.R_elder' (by (with_reducible repeat (first | apply Kd.R_alloc | apply Kd.R_drewN | apply Kd.R_drew)); exact HO_7.out) (Kd.R_base ho0) hb); have n1_ := Aside0.mk (Kd.R_elder' (by (with_reducible repeat (first | apply Kd.R_alloc | apply Kd.R_drewN | apply Kd.R_drew)); exact HO309.out) (Kd.R_base ho0) hb); have n2_ := Aside0.mk (Kd.R_elder' (by (with_reducible repeat (first | apply Kd.R_alloc | apply Kd.R_drewN | apply Kd.R_drew)); exact HO313.out) (Kd.R_base ho0) hb); have n3_ := Aside0.mk (Kd.R_lower (Kd.R_new' (Kd.R_new' (Kd.R_new' ho0 (Kd.R_lt (by (with_reducible repeat (first | apply Kd.R_alloc | apply Kd.R_drewN | apply Kd.R_drew)); exact HO_7.out))) (Kd.R_lt (by (with_reducible repeat (first | apply Kd.R_alloc | apply Kd.R_drewN | apply Kd.R_drew)); exact HO309.out))) (Kd.R_lt (by (with_reducible repeat (first | apply Kd.R_alloc | apply Kd.R_drewN | apply Kd.R_drew)); exact HO313.out))) (below_size (by repeat (first | (with_reducible first | exact HB.out | apply below_alloc | apply pw_below_drewN | apply below_drew1) | exact HB.out)))); have n4_ := Aside0.mk (below_step (by repeat (first | (with_reducible first | exact HB.out | apply below_alloc | apply pw_below_drewN | apply below_drew1) | exact HB.out)) hb); clear HO_7; clear HO309; clear HO313; clear HB; have HO_7 := n0_; have HO309 := n1_; have HO313 := n2_; have HO317 := n3_; have HB := n4_; clear n0_ n1_ n2_ n3_ n4_; (try clear hb); (try clear hb2); (try clear hk); (try clear hi); (try clear ho0)))
              (try simp only [Act.put, List.setIfInBounds_toArray, List.set_cons_zero, List.set_cons_succ])
              go_cut [70] (fun v70 wc => ∃ (kq : Nat) (x70_23 : Bool), v70 = .bool x70_23 ∧ Aside0 (klaxonlaw09_LabelsSets.j2 kq l2 t310 t311 x70_23 = some r) ∧ Aside0 (kq ≤ k2) ∧ Aside0 (Kd.R k47 47 wc w.heap.size (fun _ => True) v312 t310) ∧ Aside0 (Below w.heap.size w wc))
              case first =>
                have H := HC24.out
                clear HC24
                replace H := Option.bind_eq_some_iff.mp H
                obtain ⟨t318, A300, H⟩ := H
                replace H : (if t318 = true then ((klaxonlaw09_num.f t311).bind fun t319 => ((klaxonlaw09_num.f t315).bind fun t320 => (klaxonlaw09_LabelsSets.j2 k2 l2 t310 t311 ((t319 == 0) != (t320 == 0))))) else (klaxonlaw09_LabelsSets.j2 k2 l2 t310 t311 true)) = some r := H
                have A30 := Aside0.mk A300
                clear A300
                by_cases c31 : t318 = true
                · subst c31
                  have H1 : ((klaxonlaw09_num.f t311).bind fun t319 => ((klaxonlaw09_num.f t315).bind fun t320 => (klaxonlaw09_LabelsSets.j2 k2 l2 t310 t311 ((t319 == 0) != (t320 == 0))))) = some r := by rw [if_pos rfl] at H; exact H
                  clear H
                  have H := H1
                  clear H1
                  replace H := Option.bind_eq_some_iff.mp H
                  obtain ⟨t319, A320, H⟩ := H
                  replace H : ((klaxonlaw09_num.f t315).bind fun t320 => (klaxonlaw09_LabelsSets.j2 k2 l2 t310 t311 ((t319 == 0) != (t320 == 0)))) = some r := H
                  have A32 := Aside0.mk A320
                  clear A320
                  replace H := Option.bind_eq_some_iff.mp H
                  obtain ⟨t320, A330, H⟩ := H
                  replace H : (klaxonlaw09_LabelsSets.j2 k2 l2 t310 t311 ((t319 == 0) != (t320 == 0))) = some r := H
                  have A33 := Aside0.mk A330
                  clear A330
                  have H' := Aside0.mk H
                  clear H
                  obtain ⟨Ao34, co34, eo34⟩ := Kd.R_slice HO313.out
                  subst eo34
                  obtain ⟨Ao35, co35, eo35⟩ := Kd.R_slice HO317.out
                  subst eo35
                  go_wp2_with (first | ((with_reducible refine gate_callee (f := 15) rfl ?_); refine goesL_ (some 60) rfl rfl Tryz.func15 (by kernel_rfl) rfl #[.slice Ao34 t310.length co34, .slice Ao35 t314.length co35] rfl (by (try simp only [List.map_toArray, List.map_cons, List.map_nil]); first | done | rfl | (simp only [List.length_drop, List.length_take]; rfl)) ?_; (with_reducible refine (klaxonref09_Same.calls k2 _ _ t310 _ _ t314 true _ ?side1 ?side2 ?side3 ?side4 A30.out).mono ?_); (case side1 => repeat (first | exact (Kd.R_reads' HO313.out).2.2 | (with_reducible refine Kd.C_alloc ?_ _) | (with_reducible refine Kd.C_drewN ?_ _) | (with_reducible refine Kd.C_drew ?_))); (case side2 => exact (Kd.R_reads' HO313.out).2.1); (case side3 => repeat (first | exact (Kd.R_reads' HO317.out).2.2 | (with_reducible refine Kd.C_alloc ?_ _) | (with_reducible refine Kd.C_drewN ?_ _) | (with_reducible refine Kd.C_drew ?_))); (case side4 => exact (Kd.R_reads' HO317.out).2.1); rintro e w' ⟨rfl, ⟨nd, rfl⟩⟩; refine ⟨_, rfl, ?_⟩) | (go_at_call 16; (with_reducible refine (klaxonlaw09_num.calls t311 t319 _ A32.out).mono ?_); rintro e w' ⟨rfl, ⟨nd, rfl⟩⟩) | (go_at_call 16; (with_reducible refine (klaxonlaw09_num.calls t315 t320 _ A33.out).mono ?_); rintro e w' ⟨rfl, ⟨nd, rfl⟩⟩))
                  go_meet
                  case rel => exact ⟨_, (((t319 == 0) != (t320 == 0))), (by first | rfl | (simp; done) | (simp [*]; done)), H', ⟨by have := HJ3.out; have := HK2.out; first | omega | exact Nat.le_refl _⟩, ⟨by (with_reducible repeat (first | apply Kd.R_alloc | apply Kd.R_drewN | apply Kd.R_drew)); exact Kd.R_mono HO313.out (fun _ hk => trivial)⟩, ⟨by repeat (first | (with_reducible first | exact HB.out | apply below_alloc | apply pw_below_drewN | apply below_drew1) | exact HB.out)⟩⟩
                · replace c31 := Bool.eq_false_iff.mpr c31
                  subst c31
                  have H1 : (klaxonlaw09_LabelsSets.j2 k2 l2 t310 t311 true) = some r := by rw [if_neg (show ¬ (false = true) by decide)] at H; exact H
                  clear H
                  have H := H1
                  clear H1
                  have H' := Aside0.mk H
                  clear H
                  obtain ⟨Ao36, co36, eo36⟩ := Kd.R_slice HO313.out
                  subst eo36
                  obtain ⟨Ao37, co37, eo37⟩ := Kd.R_slice HO317.out
                  subst eo37
                  go_wp2_with (first | ((with_reducible refine gate_callee (f := 15) rfl ?_); refine goesL_ (some 60) rfl rfl Tryz.func15 (by kernel_rfl) rfl #[.slice Ao36 t310.length co36, .slice Ao37 t314.length co37] rfl (by (try simp only [List.map_toArray, List.map_cons, List.map_nil]); first | done | rfl | (simp only [List.length_drop, List.length_take]; rfl)) ?_; (with_reducible refine (klaxonref09_Same.calls k2 _ _ t310 _ _ t314 false _ ?side1 ?side2 ?side3 ?side4 A30.out).mono ?_); (case side1 => repeat (first | exact (Kd.R_reads' HO313.out).2.2 | (with_reducible refine Kd.C_alloc ?_ _) | (with_reducible refine Kd.C_drewN ?_ _) | (with_reducible refine Kd.C_drew ?_))); (case side2 => exact (Kd.R_reads' HO313.out).2.1); (case side3 => repeat (first | exact (Kd.R_reads' HO317.out).2.2 | (with_reducible refine Kd.C_alloc ?_ _) | (with_reducible refine Kd.C_drewN ?_ _) | (with_reducible refine Kd.C_drew ?_))); (case side4 => exact (Kd.R_reads' HO317.out).2.1); rintro e w' ⟨rfl, ⟨nd, rfl⟩⟩; refine ⟨_, rfl, ?_⟩))
                  go_meet
                  case rel => exact ⟨_, (true), (by first | rfl | (simp; done) | (simp [*]; done)), H', ⟨by have := HJ3.out; have := HK2.out; first | omega | exact Nat.le_refl _⟩, ⟨by (with_reducible repeat (first | apply Kd.R_alloc | apply Kd.R_drewN | apply Kd.R_drew)); exact Kd.R_mono HO313.out (fun _ hk => trivial)⟩, ⟨by repeat (first | (with_reducible first | exact HB.out | apply below_alloc | apply pw_below_drewN | apply below_drew1) | exact HB.out)⟩⟩
              case rest =>
                clear HC24
                try clear c1
                try clear c2
                try clear p2
                try clear c3
                try clear p3
                try clear q3
                try clear hx3
                try clear c6
                try clear p6
                try clear c7
                try clear c8
                try clear c10
                try clear c11
                try clear c12
                try clear c13
                try clear c14
                try clear c14b0
                try clear c15
                try clear c15b0
                try clear c15b1
                try clear c15b2
                try clear c17
                try clear c17b0
                try clear c18
                try clear c18b0
                try clear c19
                try clear p30
                try clear q30
                try clear hx30
                try clear c31
                try clear hx303_0
                try clear hx303_1
                try clear p2
                try clear p303
                try clear q303
                obtain ⟨kq, x70_23, rfl, HA, HJ23, HO_9, HB⟩ := hcut
                cases kq with
                | zero => exact absurd HA.out (by simp [klaxonlaw09_LabelsSets.j2])
                | succ kj23 =>
                  have H := HA.out
                  clear HA
                  simp only [klaxonlaw09_LabelsSets.j2] at H
                  by_cases c38 : x70_23 = true
                  · subst c38
                    have H1 : (some false) = some r := by rw [if_pos rfl] at H; exact H
                    clear H
                    have H := H1
                    clear H1
                    exact absurd ((Option.some.inj H).trans HRT.out) (by decide)
                  · replace c38 := Bool.eq_false_iff.mpr c38
                    subst c38
                    have H1 : ((klaxonlaw09_num.f t311).bind fun t321 => (if t321 = 0 then ((klaxonref09_Set.f t310).bind fun t323 => (if t323 = true then ((labels_Key.f t310).bind fun t324 => ((labels_Key.f l2).bind fun t325 => ((klaxonref09_Same.f kj23 t310 l2).bind fun t326 => (if ((t324.toList == t325.toList) == t326) = true then ((labels_Compare.f t310 l2).bind fun t327 => ((klaxonref09_Same.f kj23 t310 l2).bind fun t328 => (if ((t327 == 0) == t328) = true then ((labels_Compare.f t310 l2).bind fun t329 => ((labels_Compare.f l2 t310).bind fun t330 => (if t329 = (wrap64 (-t330)) then ((klaxonlaw09_live.f kj23).bind fun t331 => (some t331)) else (some false)))) else (some false)))) else (some false))))) else (some false))) else (if (t310.length : Int) = 0 then ((klaxonlaw09_live.f kj23).bind fun t322 => (some t322)) else (some false)))) = some r := by rw [if_neg (show ¬ (false = true) by decide)] at H; exact H
                    clear H
                    have H := H1
                    clear H1
                    replace H := Option.bind_eq_some_iff.mp H
                    obtain ⟨t321, A390, H⟩ := H
                    replace H : (if t321 = 0 then ((klaxonref09_Set.f t310).bind fun t323 => (if t323 = true then ((labels_Key.f t310).bind fun t324 => ((labels_Key.f l2).bind fun t325 => ((klaxonref09_Same.f kj23 t310 l2).bind fun t326 => (if ((t324.toList == t325.toList) == t326) = true then ((labels_Compare.f t310 l2).bind fun t327 => ((klaxonref09_Same.f kj23 t310 l2).bind fun t328 => (if ((t327 == 0) == t328) = true then ((labels_Compare.f t310 l2).bind fun t329 => ((labels_Compare.f l2 t310).bind fun t330 => (if t329 = (wrap64 (-t330)) then ((klaxonlaw09_live.f kj23).bind fun t331 => (some t331)) else (some false)))) else (some false)))) else (some false))))) else (some false))) else (if (t310.length : Int) = 0 then ((klaxonlaw09_live.f kj23).bind fun t322 => (some t322)) else (some false))) = some r := H
                    have A39 := Aside0.mk A390
                    clear A390
                    by_cases c40 : t321 = 0
                    · rw [if_pos c40] at H
                      have c40b0 : (t321 == 0) = true := beq_iff_eq.mpr c40
                      have c40b1 : (t321 != 0) = false := bne_eq_false_iff_eq.mpr c40
                      clear c40
                      replace H := Option.bind_eq_some_iff.mp H
                      obtain ⟨t323, A410, H⟩ := H
                      replace H : (if t323 = true then ((labels_Key.f t310).bind fun t324 => ((labels_Key.f l2).bind fun t325 => ((klaxonref09_Same.f kj23 t310 l2).bind fun t326 => (if ((t324.toList == t325.toList) == t326) = true then ((labels_Compare.f t310 l2).bind fun t327 => ((klaxonref09_Same.f kj23 t310 l2).bind fun t328 => (if ((t327 == 0) == t328) = true then ((labels_Compare.f t310 l2).bind fun t329 => ((labels_Compare.f l2 t310).bind fun t330 => (if t329 = (wrap64 (-t330)) then ((klaxonlaw09_live.f kj23).bind fun t331 => (some t331)) else (some false)))) else (some false)))) else (some false))))) else (some false)) = some r := H
                      have A41 := Aside0.mk A410
                      clear A410
                      by_cases c42 : t323 = true
                      · subst c42
                        have H1 : ((labels_Key.f t310).bind fun t324 => ((labels_Key.f l2).bind fun t325 => ((klaxonref09_Same.f kj23 t310 l2).bind fun t326 => (if ((t324.toList == t325.toList) == t326) = true then ((labels_Compare.f t310 l2).bind fun t327 => ((klaxonref09_Same.f kj23 t310 l2).bind fun t328 => (if ((t327 == 0) == t328) = true then ((labels_Compare.f t310 l2).bind fun t329 => ((labels_Compare.f l2 t310).bind fun t330 => (if t329 = (wrap64 (-t330)) then ((klaxonlaw09_live.f kj23).bind fun t331 => (some t331)) else (some false)))) else (some false)))) else (some false))))) = some r := by rw [if_pos rfl] at H; exact H
                        clear H
                        have H := H1
                        clear H1
                        replace H := Option.bind_eq_some_iff.mp H
                        obtain ⟨t324, A430, H⟩ := H
                        replace H : ((labels_Key.f l2).bind fun t325 => ((klaxonref09_Same.f kj23 t310 l2).bind fun t326 => (if ((t324.toList == t325.toList) == t326) = true then ((labels_Compare.f t310 l2).bind fun t327 => ((klaxonref09_Same.f kj23 t310 l2).bind fun t328 => (if ((t327 == 0) == t328) = true then ((labels_Compare.f t310 l2).bind fun t329 => ((labels_Compare.f l2 t310).bind fun t330 => (if t329 = (wrap64 (-t330)) then ((klaxonlaw09_live.f kj23).bind fun t331 => (some t331)) else (some false)))) else (some false)))) else (some false)))) = some r := H
                        have A43 := Aside0.mk A430
                        clear A430
                        replace H := Option.bind_eq_some_iff.mp H
                        obtain ⟨t325, A440, H⟩ := H
                        replace H : ((klaxonref09_Same.f kj23 t310 l2).bind fun t326 => (if ((t324.toList == t325.toList) == t326) = true then ((labels_Compare.f t310 l2).bind fun t327 => ((klaxonref09_Same.f kj23 t310 l2).bind fun t328 => (if ((t327 == 0) == t328) = true then ((labels_Compare.f t310 l2).bind fun t329 => ((labels_Compare.f l2 t310).bind fun t330 => (if t329 = (wrap64 (-t330)) then ((klaxonlaw09_live.f kj23).bind fun t331 => (some t331)) else (some false)))) else (some false)))) else (some false))) = some r := H
                        have A44 := Aside0.mk A440
                        clear A440
                        replace H := Option.bind_eq_some_iff.mp H
                        obtain ⟨t326, A450, H⟩ := H
                        replace H : (if ((t324.toList == t325.toList) == t326) = true then ((labels_Compare.f t310 l2).bind fun t327 => ((klaxonref09_Same.f kj23 t310 l2).bind fun t328 => (if ((t327 == 0) == t328) = true then ((labels_Compare.f t310 l2).bind fun t329 => ((labels_Compare.f l2 t310).bind fun t330 => (if t329 = (wrap64 (-t330)) then ((klaxonlaw09_live.f kj23).bind fun t331 => (some t331)) else (some false)))) else (some false)))) else (some false)) = some r := H
                        have A45 := Aside0.mk A450
                        clear A450
                        by_cases c46 : ((t324.toList == t325.toList) == t326) = true
                        · rw [if_pos c46] at H
                          have c46b0 : ((t324.toList == t325.toList) == t326) = true := c46
                          (try (have c46b1 : decide ((t324.toList == t325.toList) = t326) = true := by simpa using c46))
                          (try (have c46b2 : ((t324.toList == t325.toList) == t326) = true := by simpa using c46))
                          clear c46
                          replace H := Option.bind_eq_some_iff.mp H
                          obtain ⟨t327, A470, H⟩ := H
                          replace H : ((klaxonref09_Same.f kj23 t310 l2).bind fun t328 => (if ((t327 == 0) == t328) = true then ((labels_Compare.f t310 l2).bind fun t329 => ((labels_Compare.f l2 t310).bind fun t330 => (if t329 = (wrap64 (-t330)) then ((klaxonlaw09_live.f kj23).bind fun t331 => (some t331)) else (some false)))) else (some false))) = some r := H
                          have A47 := Aside0.mk A470
                          clear A470
                          replace H := Option.bind_eq_some_iff.mp H
                          obtain ⟨t328, A480, H⟩ := H
                          replace H : (if ((t327 == 0) == t328) = true then ((labels_Compare.f t310 l2).bind fun t329 => ((labels_Compare.f l2 t310).bind fun t330 => (if t329 = (wrap64 (-t330)) then ((klaxonlaw09_live.f kj23).bind fun t331 => (some t331)) else (some false)))) else (some false)) = some r := H
                          have A48 := Aside0.mk A480
                          obtain rfl : t326 = t328 := Option.some.inj (A45.out.symm.trans A480)
                          clear A480
                          by_cases c49 : ((t327 == 0) == t326) = true
                          · rw [if_pos c49] at H
                            have c49b0 : ((t327 == 0) == t326) = true := c49
                            (try (have c49b1 : decide ((t327 == 0) = t326) = true := by simpa using c49))
                            (try (have c49b2 : ((t327 == 0) == t326) = true := by simpa using c49))
                            clear c49
                            replace H := Option.bind_eq_some_iff.mp H
                            obtain ⟨t329, A500, H⟩ := H
                            replace H : ((labels_Compare.f l2 t310).bind fun t330 => (if t329 = (wrap64 (-t330)) then ((klaxonlaw09_live.f kj23).bind fun t331 => (some t331)) else (some false))) = some r := H
                            have A50 := Aside0.mk A500
                            obtain rfl : t327 = t329 := Option.some.inj (A47.out.symm.trans A500)
                            clear A500
                            replace H := Option.bind_eq_some_iff.mp H
                            obtain ⟨t330, A510, H⟩ := H
                            replace H : (if t327 = (wrap64 (-t330)) then ((klaxonlaw09_live.f kj23).bind fun t331 => (some t331)) else (some false)) = some r := H
                            have A51 := Aside0.mk A510
                            clear A510
                            by_cases c52 : t327 = (wrap64 (-t330))
                            · rw [if_pos c52] at H
                              have c52b0 : (t327 == (wrap64 (-t330))) = true := beq_iff_eq.mpr c52
                              have c52b1 : (t327 != (wrap64 (-t330))) = false := bne_eq_false_iff_eq.mpr c52
                              clear c52
                              replace H := Option.bind_eq_some_iff.mp H
                              obtain ⟨t331, A530, H⟩ := H
                              replace H : (some t331) = some r := H
                              have A53 := Aside0.mk A530
                              clear A530
                              obtain rfl := Option.some.inj H
                              go_wp2_with (first | ((with_reducible refine gate_callee (f := 16) rfl ?_); refine goesL_ (some 72) rfl rfl Tryz.func16 (by kernel_rfl) rfl #[.int .i64 t311] rfl (by (try simp only [List.map_toArray, List.map_cons, List.map_nil]); first | done | rfl | (simp only [List.length_drop, List.length_take]; rfl)) ?_; (with_reducible refine (klaxonlaw09_num.calls t311 t321 _ A39.out).mono ?_); rintro e w' ⟨rfl, ⟨nd, rfl⟩⟩; refine ⟨_, rfl, ?_⟩; obtain ⟨Ao54, co54, eo54⟩ := Kd.R_slice HO_9.out; subst eo54) | ((with_reducible refine gate_callee (f := 17) rfl ?_); refine goesL_ (some 81) rfl rfl Tryz.func17 (by kernel_rfl) rfl #[.slice Ao54 t310.length co54] rfl (by (try simp only [List.map_toArray, List.map_cons, List.map_nil]); first | done | rfl | (simp only [List.length_drop, List.length_take]; rfl)) ?_; (with_reducible refine (klaxonref09_Set.calls _ _ t310 true _ ?side1 ?side2 A41.out).mono ?_); (case side1 => repeat (first | exact (Kd.R_reads' HO_9.out).2.2 | (with_reducible refine Kd.C_alloc ?_ _) | (with_reducible refine Kd.C_drewN ?_ _) | (with_reducible refine Kd.C_drew ?_))); (case side2 => exact (Kd.R_reads' HO_9.out).2.1); rintro e w55 ⟨rfl, hb⟩; refine ⟨_, rfl, ?_⟩; have n0_ := Aside0.mk (Kd.R_below (by (with_reducible repeat (first | apply Kd.R_alloc | apply Kd.R_drewN | apply Kd.R_drew)); exact HO_9.out) hb); have n1_ := Aside0.mk (below_step (by repeat (first | (with_reducible first | exact HB.out | apply below_alloc | apply pw_below_drewN | apply below_drew1) | exact HB.out)) hb); clear HO_9; clear HB; have HO_9 := n0_; have HB := n1_; clear n0_ n1_; (try clear hb); (try clear hb2); (try clear hk); (try clear hi)) | (go_at_call 26; (with_reducible refine (labels_Key.calls _ _ t310 t324 _ ?side1 ?side2 A43.out).mono ?_); (case side1 => repeat (first | exact (Kd.R_reads' HO_9.out).2.2 | (with_reducible refine Kd.C_alloc ?_ _) | (with_reducible refine Kd.C_drewN ?_ _) | (with_reducible refine Kd.C_drew ?_))); (case side2 => exact (Kd.R_reads' HO_9.out).2.1); rintro e w56 ⟨rfl, hb⟩; have n0_ := Aside0.mk (Kd.R_below (by (with_reducible repeat (first | apply Kd.R_alloc | apply Kd.R_drewN | apply Kd.R_drew)); exact HO_9.out) hb); have n1_ := Aside0.mk (below_step (by repeat (first | (with_reducible first | exact HB.out | apply below_alloc | apply pw_below_drewN | apply below_drew1) | exact HB.out)) hb); clear HO_9; clear HB; have HO_9 := n0_; have HB := n1_; clear n0_ n1_; (try clear hb); (try clear hb2); (try clear hk); (try clear hi)) | (go_at_call 26; (with_reducible refine (labels_Key.calls _ _ l2 t325 _ ?side1 ?side2 A44.out).mono ?_); (case side1 => repeat (first | exact (Kd.C_below HR2.out HB.out) | (with_reducible refine Kd.C_alloc ?_ _) | (with_reducible refine Kd.C_drewN ?_ _) | (with_reducible refine Kd.C_drew ?_))); (case side2 => exact HC2.out); rintro e w57 ⟨rfl, hb⟩; have n0_ := Aside0.mk (Kd.R_below (by (with_reducible repeat (first | apply Kd.R_alloc | apply Kd.R_drewN | apply Kd.R_drew)); exact HO_9.out) hb); have n1_ := Aside0.mk (below_step (by repeat (first | (with_reducible first | exact HB.out | apply below_alloc | apply pw_below_drewN | apply below_drew1) | exact HB.out)) hb); clear HO_9; clear HB; have HO_9 := n0_; have HB := n1_; clear n0_ n1_; (try clear hb); (try clear hb2); (try clear hk); (try clear hi)) | (go_at_call 15; (with_reducible refine (klaxonref09_Same.calls kj23 _ _ t310 _ _ l2 t326 _ ?side1 ?side2 ?side3 ?side4 A45.out).mono ?_); (case side1 => repeat (first | exact (Kd.R_reads' HO_9.out).2.2 | (with_reducible refine Kd.C_alloc ?_ _) | (with_reducible refine Kd.C_drewN ?_ _) | (with_reducible refine Kd.C_drew ?_))); (case side2 => exact (Kd.R_reads' HO_9.out).2.1); (case side3 => repeat (first | exact (Kd.C_below HR2.out HB.out) | (with_reducible refine Kd.C_alloc ?_ _) | (with_reducible refine Kd.C_drewN ?_ _) | (with_reducible refine Kd.C_drew ?_))); (case side4 => exact HC2.out); rintro e w' ⟨rfl, ⟨nd, rfl⟩⟩) | (go_at_call 27; (with_reducible refine (labels_Compare.calls _ _ t310 _ _ l2 t327 _ ?side1 ?side2 ?side3 ?side4 A47.out).mono ?_); (case side1 => repeat (first | exact (Kd.R_reads' HO_9.out).2.2 | (with_reducible refine Kd.C_alloc ?_ _) | (with_reducible refine Kd.C_drewN ?_ _) | (with_reducible refine Kd.C_drew ?_))); (case side2 => exact (Kd.R_reads' HO_9.out).2.1); (case side3 => repeat (first | exact (Kd.C_below HR2.out (by repeat (first | (with_reducible first | exact HB.out | apply below_alloc | apply pw_below_drewN | apply below_drew1) | exact HB.out))) | (with_reducible refine Kd.C_alloc ?_ _) | (with_reducible refine Kd.C_drewN ?_ _) | (with_reducible refine Kd.C_drew ?_))); (case side4 => exact HC2.out); rintro e w58 ⟨rfl, hb⟩; have n0_ := Aside0.mk (Kd.R_below (by (with_reducible repeat (first | apply Kd.R_alloc | apply Kd.R_drewN | apply Kd.R_drew)); exact HO_9.out) hb); have n1_ := Aside0.mk (below_step (by repeat (first | (with_reducible first | exact HB.out | apply below_alloc | apply pw_below_drewN | apply below_drew1) | exact HB.out)) hb); clear HO_9; clear HB; have HO_9 := n0_; have HB := n1_; clear n0_ n1_; (try clear hb); (try clear hb2); (try clear hk); (try clear hi)) | (go_at_call 15; (with_reducible refine (klaxonref09_Same.calls kj23 _ _ t310 _ _ l2 t326 _ ?side1 ?side2 ?side3 ?side4 A48.out).mono ?_); (case side1 => repeat (first | exact (Kd.R_reads' HO_9.out).2.2 | (with_reducible refine Kd.C_alloc ?_ _) | (with_reducible refine Kd.C_drewN ?_ _) | (with_reducible refine Kd.C_drew ?_))); (case side2 => exact (Kd.R_reads' HO_9.out).2.1); (case side3 => repeat (first | exact (Kd.C_below HR2.out HB.out) | (with_reducible refine Kd.C_alloc ?_ _) | (with_reducible refine Kd.C_drewN ?_ _) | (with_reducible refine Kd.C_drew ?_))); (case side4 => exact HC2.out); rintro e w' ⟨rfl, ⟨nd, rfl⟩⟩) | (go_at_call 27; (with_reducible refine (labels_Compare.calls _ _ t310 _ _ l2 t327 _ ?side1 ?side2 ?side3 ?side4 A50.out).mono ?_); (case side1 => repeat (first | exact (Kd.R_reads' HO_9.out).2.2 | (with_reducible refine Kd.C_alloc ?_ _) | (with_reducible refine Kd.C_drewN ?_ _) | (with_reducible refine Kd.C_drew ?_))); (case side2 => exact (Kd.R_reads' HO_9.out).2.1); (case side3 => repeat (first | exact (Kd.C_below HR2.out (by repeat (first | (with_reducible first | exact HB.out | apply below_alloc | apply pw_below_drewN | apply below_drew1) | exact HB.out))) | (with_reducible refine Kd.C_alloc ?_ _) | (with_reducible refine Kd.C_drewN ?_ _) | (with_reducible refine Kd.C_drew ?_))); (case side4 => exact HC2.out); rintro e w59 ⟨rfl, hb⟩; have n0_ := Aside0.mk (Kd.R_below (by (with_reducible repeat (first | apply Kd.R_alloc | apply Kd.R_drewN | apply Kd.R_drew)); exact HO_9.out) hb); have n1_ := Aside0.mk (below_step (by repeat (first | (with_reducible first | exact HB.out | apply below_alloc | apply pw_below_drewN | apply below_drew1) | exact HB.out)) hb); clear HO_9; clear HB; have HO_9 := n0_; have HB := n1_; clear n0_ n1_; (try clear hb); (try clear hb2); (try clear hk); (try clear hi)) | (go_at_call 27; (with_reducible refine (labels_Compare.calls _ _ l2 _ _ t310 t330 _ ?side1 ?side2 ?side3 ?side4 A51.out).mono ?_); (case side1 => repeat (first | exact (Kd.C_below HR2.out HB.out) | (with_reducible refine Kd.C_alloc ?_ _) | (with_reducible refine Kd.C_drewN ?_ _) | (with_reducible refine Kd.C_drew ?_))); (case side2 => exact HC2.out); (case side3 => repeat (first | exact (Kd.R_reads' HO_9.out).2.2 | (with_reducible refine Kd.C_alloc ?_ _) | (with_reducible refine Kd.C_drewN ?_ _) | (with_reducible refine Kd.C_drew ?_))); (case side4 => exact (Kd.R_reads' HO_9.out).2.1); rintro e w60 ⟨rfl, hb⟩; have n0_ := Aside0.mk (Kd.R_below (by (with_reducible repeat (first | apply Kd.R_alloc | apply Kd.R_drewN | apply Kd.R_drew)); exact HO_9.out) hb); have n1_ := Aside0.mk (below_step (by repeat (first | (with_reducible first | exact HB.out | apply below_alloc | apply pw_below_drewN | apply below_drew1) | exact HB.out)) hb); clear HO_9; clear HB; have HO_9 := n0_; have HB := n1_; clear n0_ n1_; (try clear hb); (try clear hb2); (try clear hk); (try clear hi)) | (go_at_call 11; (with_reducible refine (klaxonlaw09_live.calls kj23  t331 _ A53.out).mono ?_); rintro e w61 ⟨rfl, hb⟩; have n0_ := Aside0.mk (Kd.R_below (by (with_reducible repeat (first | apply Kd.R_alloc | apply Kd.R_drewN | apply Kd.R_drew)); exact HO_9.out) hb); have n1_ := Aside0.mk (below_step (by repeat (first | (with_reducible first | exact HB.out | apply below_alloc | apply pw_below_drewN | apply below_drew1) | exact HB.out)) hb); clear HO_9; clear HB; have HO_9 := n0_; have HB := n1_; clear n0_ n1_; (try clear hb); (try clear hb2); (try clear hk); (try clear hi)))
                              go_ret
                              exact ⟨by first | rfl | (simp [errW_none, errW_some] <;> rfl) | (simp [*, errW_none, errW_some] <;> rfl), by repeat (first | (with_reducible first | exact HB.out | apply below_alloc | apply pw_below_drewN | apply below_drew1) | exact HB.out)⟩
                            · rw [if_neg c52] at H
                              have c52b0 : (t327 == (wrap64 (-t330))) = false := beq_eq_false_iff_ne.mpr c52
                              have c52b1 : (t327 != (wrap64 (-t330))) = true := bne_iff_ne.mpr c52
                              exact absurd ((Option.some.inj H).trans HRT.out) (by decide)
                          · rw [if_neg c49] at H
                            have c49b0 : ((t327 == 0) == t326) = false := by simpa using c49
                            (try (have c49b1 : decide ((t327 == 0) = t326) = false := by simpa using c49))
                            (try (have c49b2 : ((t327 == 0) == t326) = false := by simpa using c49))
                            (try (have c49b3 : ¬ ((t327 == 0) = t326) := by simpa using c49))
                            clear c49
                            exact absurd ((Option.some.inj H).trans HRT.out) (by decide)
                        · rw [if_neg c46] at H
                          have c46b0 : ((t324.toList == t325.toList) == t326) = false := by simpa using c46
                          (try (have c46b1 : decide ((t324.toList == t325.toList) = t326) = false := by simpa using c46))
                          (try (have c46b2 : ((t324.toList == t325.toList) == t326) = false := by simpa using c46))
                          (try (have c46b3 : ¬ ((t324.toList == t325.toList) = t326) := by simpa using c46))
                          clear c46
                          exact absurd ((Option.some.inj H).trans HRT.out) (by decide)
                      · replace c42 := Bool.eq_false_iff.mpr c42
                        subst c42
                        have H1 : (some false) = some r := by rw [if_neg (show ¬ (false = true) by decide)] at H; exact H
                        clear H
                        have H := H1
                        clear H1
                        exact absurd ((Option.some.inj H).trans HRT.out) (by decide)
                    · rw [if_neg c40] at H
                      have c40b0 : (t321 == 0) = false := beq_eq_false_iff_ne.mpr c40
                      have c40b1 : (t321 != 0) = true := bne_iff_ne.mpr c40
                      by_cases c80 : (t310.length : Int) = 0
                      · rw [if_pos c80] at H
                        have c80b0 : ((t310.length : Int) == 0) = true := beq_iff_eq.mpr c80
                        have c80b1 : ((t310.length : Int) != 0) = false := bne_eq_false_iff_eq.mpr c80
                        clear c80
                        replace H := Option.bind_eq_some_iff.mp H
                        obtain ⟨t322, A810, H⟩ := H
                        replace H : (some t322) = some r := H
                        have A81 := Aside0.mk A810
                        clear A810
                        obtain rfl := Option.some.inj H
                        go_wp2_with (first | ((with_reducible refine gate_callee (f := 16) rfl ?_); refine goesL_ (some 72) rfl rfl Tryz.func16 (by kernel_rfl) rfl #[.int .i64 t311] rfl (by (try simp only [List.map_toArray, List.map_cons, List.map_nil]); first | done | rfl | (simp only [List.length_drop, List.length_take]; rfl)) ?_; (with_reducible refine (klaxonlaw09_num.calls t311 t321 _ A39.out).mono ?_); rintro e w' ⟨rfl, ⟨nd, rfl⟩⟩; refine ⟨_, rfl, ?_⟩; obtain ⟨Ao82, co82, eo82⟩ := Kd.R_slice HO_9.out; subst eo82) | (go_at_call 11; (with_reducible refine (klaxonlaw09_live.calls kj23  t322 _ A81.out).mono ?_); rintro e w83 ⟨rfl, hb⟩; have n0_ := Aside0.mk (Kd.R_below (by (with_reducible repeat (first | apply Kd.R_alloc | apply Kd.R_drewN | apply Kd.R_drew)); exact HO_9.out) hb); have n1_ := Aside0.mk (below_step (by repeat (first | (with_reducible first | exact HB.out | apply below_alloc | apply pw_below_drewN | apply below_drew1) | exact HB.out)) hb); clear HO_9; clear HB; have HO_9 := n0_; have HB := n1_; clear n0_ n1_; (try clear hb); (try clear hb2); (try clear hk); (try clear hi)))
                        go_ret
                        exact ⟨by first | rfl | (simp [errW_none, errW_some] <;> rfl) | (simp [*, errW_none, errW_some] <;> rfl), by repeat (first | (with_reducible first | exact HB.out | apply below_alloc | apply pw_below_drewN | apply below_drew1) | exact HB.out)⟩
                      · rw [if_neg c80] at H
                        have c80b0 : ((t310.length : Int) == 0) = false := beq_eq_false_iff_ne.mpr c80
                        have c80b1 : ((t310.length : Int) != 0) = true := bne_iff_ne.mpr c80
                        have c80b2 : ¬ (t310 = []) := fun h_ => c80 (by rw [h_]; rfl)
                        exact absurd ((Option.some.inj H).trans HRT.out) (by decide)

end Go.Proofs.YtmhilolgjcfhjaaGreat.X

/- LabelsSets in plain Lean: any order of labels is the same set; unlike sets have unlike keys. -/
namespace Go.Proofs.YtmhilolgjcfhjaaGreat.Pure
open Go.RowKit Go.Proofs.YtmhilolgjcfhjaaGreat.X Go.Proofs.YtmhilolgjcfhjaaGreatW.PrintWords Go.Proofs.YtmhilolgjcfhjaaGreatW.PrintLast Go.Proofs.YtmhilolgjcfhjaaGreatW.PrintMore

theorem sets_fits {l : List S47} (h : InL l) : fits47 l := ⟨by have := h.1; omega, fun x hx => by have := (h.2 x hx).1; unfold InS at this; omega⟩
/-- What stands behind the loop. -/
theorem sets_j2 (a m : List S47) (e : Int) (hm : IsSet m) (h : (e = 0 ∧ IsSet a) ∨ (e ≠ 0 ∧ a = [])) : Ev (fun k => klaxonlaw09_LabelsSets.j2 k m a e false) true := by
  refine Ev.step (fun k => by rw [klaxonlaw09_LabelsSets.j2]) ?_
  refine Ev.ifn (by decide) (Ev.bind (Ev.now _) ?_)
  rcases h with ⟨rfl, ha⟩ | ⟨he, rfl⟩
  · have la := ha.few
    have lm := hm.few
    have hc : ∀ x y : List S47, x.length ≤ 16 → y.length ≤ 16 → labels_Compare.f x y = some (cmpB x y) := fun x y hx hy => by unfold labels_Compare.f; rw [if_pos ⟨by omega, by omega⟩]
    refine Ev.ifp rfl ?_
    rw [set_f ha.fits, (set_iff a).2 ha, key_f ha, key_f hm, hc a m la lm, hc m a lm la]
    have hs := same_ev a m (by omega)
    refine Ev.bind (Ev.now _) (Ev.ifp rfl (Ev.bind (Ev.now _) (Ev.bind (Ev.now _) (Ev.bind hs (Ev.ifp ?_ (Ev.bind (Ev.now _) (Ev.bind hs (Ev.ifp ?_ (Ev.bind (Ev.now _) (Ev.bind (Ev.now _) (Ev.ifp ?_ ?_)))))))))))
    · rw [key_eq a m ha hm]; simp
    · by_cases q : a = m
      · rw [decide_eq_true q, (cmpB_zero a m).2 q]; rfl
      · rw [decide_eq_false q, beq_eq_false_iff_ne.2 (fun z => q ((cmpB_zero a m).1 z))]; rfl
    · rw [cmpB_swap a m]
      have := cmpB_range m a
      unfold wrap64
      omega
    · exact Ev.bind live_ev (Ev.now _)
  · refine Ev.ifn he (Ev.ifp rfl ?_)
    exact Ev.bind live_ev (Ev.now _)
/-- The labels, begun at s. -/
def turn (l : List S47) (s : Nat) : List S47 := l.drop s ++ l.take s
theorem turn_perm (l : List S47) (s : Nat) : (turn l s).Perm l := by
  unfold turn
  refine List.perm_append_comm.trans ?_
  rw [List.take_append_drop]
theorem turn_len (l : List S47) (s : Nat) : (turn l s).length = l.length := (turn_perm l s).length_eq
theorem turn_at (l : List S47) (s i : Nat) (hs : s < l.length) (hi : i < l.length) : (turn l s)[i]'(by rw [turn_len]; exact hi) = l[(i + s) % l.length]'(Nat.mod_lt _ (by omega)) := by
  unfold turn
  by_cases c : i < l.length - s
  · rw [List.getElem_append_left (by rw [List.length_drop]; exact c), List.getElem_drop]
    congr 1
    rw [Nat.mod_eq_of_lt (by omega)]; omega
  · rw [List.getElem_append_right (by rw [List.length_drop]; omega), List.getElem_take]
    congr 1
    rw [List.length_drop, show i + s = (i - (l.length - s)) + l.length by omega, Nat.add_mod_right, Nat.mod_eq_of_lt (by omega)]
theorem sets_l0 (l : List S47) (by_ : Int) (m : List S47) (s : Nat) (hm : IsSet m) (hl : l.length ≤ 60) (hn : NamesFit l) (hs : l.length = 0 ∨ s < l.length ∧ Int.tmod by_ l.length = s) : ∀ d i : Nat, i + d = l.length →
    Ev (fun k => klaxonlaw09_LabelsSets.l0 k l by_ m ((turn l s).take i) i) true
  | 0, i, hi => by
    refine Ev.step (fun k => by rw [klaxonlaw09_LabelsSets.l0]) (Ev.ifn (by omega) ?_)
    have ht := turn_len l s
    rw [List.take_of_length_le (by omega), own_f l (by omega)]
    refine Ev.bind (Ev.now _) ?_
    rw [make_f (by omega) hn, make_f (by omega) (fun x hx => hn x ((turn_perm l s).mem_iff.1 hx)), make_perm (turn_perm l s)]
    have lm := make_len l
    have hsame := same_ev (makeB l).1 (makeB l).1 (by omega)
    rw [decide_eq_true rfl] at hsame
    refine Ev.bind (Ev.now _) (Ev.bind (Ev.now _) (Ev.bind hsame (Ev.ifp rfl (Ev.bind (Ev.now _) (Ev.bind (Ev.now _) ?_)))))
    rw [show (((makeB l).2 == 0) != ((makeB l).2 == 0)) = false by simp]
    refine sets_j2 _ m _ hm ?_
    rcases make_cases l with ⟨e, h1, h2, h3⟩ | ⟨e, h1⟩
    · rw [e]; exact .inl ⟨rfl, srt_set h1 h2 h3⟩
    · exact .inr ⟨h1, e⟩
  | d + 1, i, hi => by
    have ih := sets_l0 l by_ m s hm hl hn hs d (i + 1) (by omega)
    obtain ⟨h1, h2⟩ := hs.resolve_left (by omega)
    have hw : wrap64 ((i : Int) + (s : Int)) = ((i + s : Nat) : Int) := by unfold wrap64; omega
    have ht : Int.tmod ((i + s : Nat) : Int) (l.length : Int) = (((i + s) % l.length : Nat) : Int) := rfl
    have hlt : (i + s) % l.length < l.length := Nat.mod_lt _ (by omega)
    refine Ev.step (fun k => by rw [klaxonlaw09_LabelsSets.l0]) (Ev.ifp (by omega) (Ev.ifn (by omega) ?_))
    rw [h2, hw, ht]
    refine Ev.ifp (by omega) (Ev.ifp (by omega) (Ev.ifp (by rw [List.length_take]; omega) ?_))
    rw [wrap_up i (by omega), rd47_at l _ hlt, ← turn_at l s i h1 (by omega)]
    have e : (turn l s).take i ++ [(⟨((turn l s)[i]'(by rw [turn_len]; omega)).f0, ((turn l s)[i]'(by rw [turn_len]; omega)).f1⟩ : S47)] = (turn l s).take (i + 1) := by
      rw [List.take_succ_eq_append_getElem (by rw [turn_len]; omega)]
    rw [e]
    exact ih
theorem sets_j0 (l : List S47) (by_ : Int) (m : List S47) (t : Bool) (h : t = false → IsSet m ∧ l.length ≤ 60 ∧ NamesFit l ∧ 0 ≤ by_) : Ev (fun k => klaxonlaw09_LabelsSets.j0 k l by_ m t) true := by
  refine Ev.step (fun k => by rw [klaxonlaw09_LabelsSets.j0]) ?_
  cases t with
  | true => exact Ev.ifp rfl (Ev.bind live_ev (Ev.now _))
  | false =>
    obtain ⟨hm, hl, hn, hb⟩ := h rfl
    refine Ev.ifn (by decide) ?_
    have := sets_l0 l by_ m (Int.tmod by_ l.length).toNat hm hl hn (by
      by_cases c : l.length = 0
      · exact .inl c
      · right
        have h1 := Int.tmod_nonneg (l.length : Int) hb
        have h2 := Int.tmod_lt_of_pos by_ (show (0 : Int) < l.length by omega)
        omega) l.length 0 (by omega)
    rw [List.take_zero] at this
    exact this
theorem LabelsSets (l : List S47) (by_ : Int) (m : List S47) (h0 : InL l) (_ : (Lit.int .i64 by_).wf = true) (h2 : InL m) : ∃ k, klaxonlaw09_LabelsSets.f k l by_ m = some true := by
  refine Ev.rounds (g := fun k => klaxonlaw09_LabelsSets.f k l by_ m) ?_
  unfold klaxonlaw09_LabelsSets.f
  obtain ⟨r, hr, hlen⟩ := small_ev l (fun x hx => h0.2 x hx)
  refine Ev.bind hr ?_
  cases r with
  | false => exact Ev.ifn (by decide) (sets_j0 l by_ m true (fun q => by cases q))
  | true =>
    refine Ev.ifp rfl ?_
    rw [set_f (sets_fits h2)]
    refine Ev.bind (Ev.now _) ?_
    by_cases c : setB m = true
    · exact Ev.ifp c (sets_j0 l by_ m _ (fun hn => ⟨(set_iff m).1 c, hlen rfl, (sets_fits h0).2, by have := of_decide_eq_false hn; omega⟩))
    · exact Ev.ifn c (sets_j0 l by_ m true (fun q => by cases q))
end Go.Proofs.YtmhilolgjcfhjaaGreat.Pure
