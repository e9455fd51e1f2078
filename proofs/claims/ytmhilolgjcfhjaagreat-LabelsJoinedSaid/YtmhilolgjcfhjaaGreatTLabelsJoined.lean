/- LabelsJoined: its walk, and the plain law: it answers true. -/
import Derived.Test.YtmhilolgjcfhjaaGreatGA
import Derived.Test.YtmhilolgjcfhjaaGreatGI
import Derived.Test.YtmhilolgjcfhjaaGreatGJ
import Derived.Test.YtmhilolgjcfhjaaGreatGL
import Derived.Test.YtmhilolgjcfhjaaGreatGH
import Derived.Test.YtmhilolgjcfhjaaGreatGG
import Derived.Test.YtmhilolgjcfhjaaGreatGM
set_option linter.unusedVariables false
set_option linter.unusedSimpArgs false

namespace Go.Proofs.YtmhilolgjcfhjaaGreat.X
open Go.RowKit Go.Proofs.YtmhilolgjcfhjaaGreatW.PrintWords Go.Proofs.YtmhilolgjcfhjaaGreatW.PrintLast Go.Proofs.YtmhilolgjcfhjaaGreatW.PrintMore
attribute [local go_sem] max2_int min2_int max_two min_two max_three min_three max_four min_four   -- for this text's walks alone
set_option linter.unusedVariables false
set_option linter.unusedSimpArgs false

/-! ### klaxonlaw09_LabelsJoined: function 6 -/
mutual
def klaxonlaw09_LabelsJoined.j0 : Nat → List (S47) → List (S47) → List ByteArray → Bool → Option (Bool)
  | 0, _, _, _, _ => none
  | k + 1, x0, x1, x2, x30 => if x30 = true then ((klaxonlaw09_live.f k).bind fun t270 => (some t270)) else ((labels_Join.f k x0 x1).bind fun bt271 => ((labels_Join.f k x1 x0).bind fun bt275 => ((labels_Only.f x0 x2).bind fun t279 => ((labels_Without.f x0 x2).bind fun t282 => ((labels_Join.f k t282 t279).bind fun bt285 => ((labels_Join.f k x0 t279).bind fun bt289 => (if (bt271.2 != bt275.2) = true then (klaxonlaw09_LabelsJoined.j1 k x0 bt271.1 bt271.2 true) else ((klaxonref09_Same.f k bt271.1 bt275.1).bind fun t293 => (if t293 = true then (if bt285.2 = true then ((klaxonref09_Same.f k bt285.1 x0).bind fun t294 => (if t294 = true then (if bt289.2 = true then ((klaxonref09_Same.f k bt289.1 x0).bind fun t295 => (if t295 = true then (klaxonlaw09_LabelsJoined.j1 k x0 bt271.1 bt271.2 ((wrap64 ((t279.length : Int) + (t282.length : Int))) != (x0.length : Int))) else (klaxonlaw09_LabelsJoined.j1 k x0 bt271.1 bt271.2 true))) else (klaxonlaw09_LabelsJoined.j1 k x0 bt271.1 bt271.2 true)) else (klaxonlaw09_LabelsJoined.j1 k x0 bt271.1 bt271.2 true))) else (klaxonlaw09_LabelsJoined.j1 k x0 bt271.1 bt271.2 true)) else (klaxonlaw09_LabelsJoined.j1 k x0 bt271.1 bt271.2 true))))))))))
def klaxonlaw09_LabelsJoined.j1 : Nat → List (S47) → List (S47) → Bool → Bool → Option (Bool)
  | 0, _, _, _, _ => none
  | k + 1, x0, x7, x8, x100 => if x100 = true then (some false) else (klaxonlaw09_LabelsJoined.l0 k x0 x7 x8 0)
def klaxonlaw09_LabelsJoined.l0 : Nat → List (S47) → List (S47) → Bool → Int → Option (Bool)
  | 0, _, _, _, _ => none
  | k + 1, x0, x7, x8, x17 => if x17 < (x0.length : Int) then (klaxonlaw09_LabelsJoined.j3 k x0 x7 x8 x17 x8) else (klaxonlaw09_LabelsJoined.j3 k x0 x7 x8 x17 false)
def klaxonlaw09_LabelsJoined.j3 : Nat → List (S47) → List (S47) → Bool → Int → Bool → Option (Bool)
  | 0, _, _, _, _, _ => none
  | k + 1, x0, x7, x8, x17, x107 => if x107 = true then (if 0 ≤ x17 then (if x17 < (x0.length : Int) then ((labels_Get.f x7 ((rd_T47 x0 x17).f0)).bind fun t297 => (if t297.toList = ((rd_T47 x0 x17).f1).toList then (klaxonlaw09_LabelsJoined.l0 k x0 x7 x8 (wrap64 (x17 + 1))) else (some false))) else (none)) else (none)) else ((klaxonlaw09_live.f k).bind fun t299 => (some t299))
end
def klaxonlaw09_LabelsJoined.f (k : Nat) (l0 : List (S47)) (l1 : List (S47)) (l2 : List ByteArray) : Option (Bool) := (klaxonref09_Set.f l0).bind fun t268 => (if t268 = true then ((klaxonref09_Set.f l1).bind fun t269 => (if t269 = true then (klaxonlaw09_LabelsJoined.j0 k l0 l1 l2 (decide ((l2.length : Int) > 60))) else (klaxonlaw09_LabelsJoined.j0 k l0 l1 l2 true))) else (klaxonlaw09_LabelsJoined.j0 k l0 l1 l2 true))
theorem klaxonlaw09_LabelsJoined.mono_l : ∀ k, (∀ y0 y1 y2 y3, LeO (klaxonlaw09_LabelsJoined.j0 k y0 y1 y2 y3) (klaxonlaw09_LabelsJoined.j0 (k + 1) y0 y1 y2 y3)) ∧ (∀ y0 y1 y2 y3, LeO (klaxonlaw09_LabelsJoined.j1 k y0 y1 y2 y3) (klaxonlaw09_LabelsJoined.j1 (k + 1) y0 y1 y2 y3)) ∧ (∀ y0 y1 y2 y3, LeO (klaxonlaw09_LabelsJoined.l0 k y0 y1 y2 y3) (klaxonlaw09_LabelsJoined.l0 (k + 1) y0 y1 y2 y3)) ∧ (∀ y0 y1 y2 y3 y4, LeO (klaxonlaw09_LabelsJoined.j3 k y0 y1 y2 y3 y4) (klaxonlaw09_LabelsJoined.j3 (k + 1) y0 y1 y2 y3 y4))
  | 0 => ⟨fun _ _ _ _ r h => by simp [klaxonlaw09_LabelsJoined.j0] at h, fun _ _ _ _ r h => by simp [klaxonlaw09_LabelsJoined.j1] at h, fun _ _ _ _ r h => by simp [klaxonlaw09_LabelsJoined.l0] at h, fun _ _ _ _ _ r h => by simp [klaxonlaw09_LabelsJoined.j3] at h⟩
  | k + 1 => by
    obtain ⟨ih0, ih1, ih2, ih3⟩ := klaxonlaw09_LabelsJoined.mono_l k
    refine ⟨?_, ?_, ?_, ?_⟩
    · intro y0 y1 y2 y3
      unfold klaxonlaw09_LabelsJoined.j0
      repeat' first
      | (with_reducible exact ih0 _ _ _ _)
      | (with_reducible exact ih1 _ _ _ _)
      | (with_reducible exact ih2 _ _ _ _)
      | (with_reducible exact ih3 _ _ _ _ _)
      | (with_reducible exact klaxonlaw09_live.mono _)
      | (with_reducible exact klaxonref09_Same.mono _ _ _)
      | (with_reducible exact labels_Join.mono _ _ _)
      | (with_reducible exact LeO.refl _)
      | (with_reducible exact LeO.none _)
      | (with_reducible refine LeO.ite ?_ ?_)
      | (with_reducible refine LeO.bind ?_ (fun _ => ?_))
      | exact ih0 _ _ _ _
      | exact ih1 _ _ _ _
      | exact ih2 _ _ _ _
      | exact ih3 _ _ _ _ _
      | exact klaxonlaw09_live.mono _
      | exact klaxonref09_Same.mono _ _ _
      | exact labels_Join.mono _ _ _
      | exact LeO.none _
      | refine LeO.ite ?_ ?_
      | refine LeO.bind ?_ (fun _ => ?_)
    · intro y0 y1 y2 y3
      unfold klaxonlaw09_LabelsJoined.j1
      repeat' first
      | (with_reducible exact ih0 _ _ _ _)
      | (with_reducible exact ih1 _ _ _ _)
      | (with_reducible exact ih2 _ _ _ _)
      | (with_reducible exact ih3 _ _ _ _ _)
      | (with_reducible exact klaxonlaw09_live.mono _)
      | (with_reducible exact klaxonref09_Same.mono _ _ _)
      | (with_reducible exact labels_Join.mono _ _ _)
      | (with_reducible exact LeO.refl _)
      | (with_reducible exact LeO.none _)
      | (with_reducible refine LeO.ite ?_ ?_)
      | (with_reducible refine LeO.bind ?_ (fun _ => ?_))
      | exact ih0 _ _ _ _
      | exact ih1 _ _ _ _
      | exact ih2 _ _ _ _
      | exact ih3 _ _ _ _ _
      | exact klaxonlaw09_live.mono _
      | exact klaxonref09_Same.mono _ _ _
      | exact labels_Join.mono _ _ _
      | exact LeO.none _
      | refine LeO.ite ?_ ?_
      | refine LeO.bind ?_ (fun _ => ?_)
    · intro y0 y1 y2 y3
      unfold klaxonlaw09_LabelsJoined.l0
      repeat' first
      | (with_reducible exact ih0 _ _ _ _)
      | (with_reducible exact ih1 _ _ _ _)
      | (with_reducible exact ih2 _ _ _ _)
      | (with_reducible exact ih3 _ _ _ _ _)
      | (with_reducible exact klaxonlaw09_live.mono _)
      | (with_reducible exact klaxonref09_Same.mono _ _ _)
      | (with_reducible exact labels_Join.mono _ _ _)
      | (with_reducible exact LeO.refl _)
      | (with_reducible exact LeO.none _)
      | (with_reducible refine LeO.ite ?_ ?_)
      | (with_reducible refine LeO.bind ?_ (fun _ => ?_))
      | exact ih0 _ _ _ _
      | exact ih1 _ _ _ _
      | exact ih2 _ _ _ _
      | exact ih3 _ _ _ _ _
      | exact klaxonlaw09_live.mono _
      | exact klaxonref09_Same.mono _ _ _
      | exact labels_Join.mono _ _ _
      | exact LeO.none _
      | refine LeO.ite ?_ ?_
      | refine LeO.bind ?_ (fun _ => ?_)
    · intro y0 y1 y2 y3 y4
      unfold klaxonlaw09_LabelsJoined.j3
      repeat' first
      | (with_reducible exact ih0 _ _ _ _)
      | (with_reducible exact ih1 _ _ _ _)
      | (with_reducible exact ih2 _ _ _ _)
      | (with_reducible exact ih3 _ _ _ _ _)
      | (with_reducible exact klaxonlaw09_live.mono _)
      | (with_reducible exact klaxonref09_Same.mono _ _ _)
      | (with_reducible exact labels_Join.mono _ _ _)
      | (with_reducible exact LeO.refl _)
      | (with_reducible exact LeO.none _)
      | (with_reducible refine LeO.ite ?_ ?_)
      | (with_reducible refine LeO.bind ?_ (fun _ => ?_))
      | exact ih0 _ _ _ _
      | exact ih1 _ _ _ _
      | exact ih2 _ _ _ _
      | exact ih3 _ _ _ _ _
      | exact klaxonlaw09_live.mono _
      | exact klaxonref09_Same.mono _ _ _
      | exact labels_Join.mono _ _ _
      | exact LeO.none _
      | refine LeO.ite ?_ ?_
      | refine LeO.bind ?_ (fun _ => ?_)
theorem klaxonlaw09_LabelsJoined.mono : ∀ a0 a1 a2 k, LeO (klaxonlaw09_LabelsJoined.f k a0 a1 a2) (klaxonlaw09_LabelsJoined.f (k + 1) a0 a1 a2) := by
  intro a0 a1 a2 k
  obtain ⟨ih0, ih1, ih2, ih3⟩ := klaxonlaw09_LabelsJoined.mono_l k
  unfold klaxonlaw09_LabelsJoined.f
  repeat' first
      | (with_reducible exact ih0 _ _ _ _)
      | (with_reducible exact ih1 _ _ _ _)
      | (with_reducible exact ih2 _ _ _ _)
      | (with_reducible exact ih3 _ _ _ _ _)
      | (with_reducible exact klaxonlaw09_live.mono _)
      | (with_reducible exact klaxonref09_Same.mono _ _ _)
      | (with_reducible exact labels_Join.mono _ _ _)
      | (with_reducible exact LeO.refl _)
      | (with_reducible exact LeO.none _)
      | (with_reducible refine LeO.ite ?_ ?_)
      | (with_reducible refine LeO.bind ?_ (fun _ => ?_))
      | exact ih0 _ _ _ _
      | exact ih1 _ _ _ _
      | exact ih2 _ _ _ _
      | exact ih3 _ _ _ _ _
      | exact klaxonlaw09_live.mono _
      | exact klaxonref09_Same.mono _ _ _
      | exact labels_Join.mono _ _ _
      | exact LeO.none _
      | refine LeO.ite ?_ ?_
      | refine LeO.bind ?_ (fun _ => ?_)
def klaxonlaw09_LabelsJoined.T13 : Bool × List (List Nat × List Nat) := (true, [([], []), ([], []), ([], []), ([1, 2], [1, 2]), ([3], [3]), ([4], [4]), ([0, 5], [0, 5]), ([], []), ([], []), ([7, 8], [7, 8]), ([9], [9]), ([10], [10]), ([6, 11], [6, 11])])
def klaxonlaw09_LabelsJoined.B13 : List Nat := [0, 0, 0, 6, 14, 30, 63, 0, 0, 384, 896, 1920, 4095]
theorem klaxonlaw09_LabelsJoined.tab13 : rtab .any (opsOf Tryz.f6 13) = klaxonlaw09_LabelsJoined.T13 := by kernel_rfl
theorem klaxonlaw09_LabelsJoined.bits13 : waitsOk klaxonlaw09_LabelsJoined.T13.2 klaxonlaw09_LabelsJoined.B13 = true := by kernel_rfl
set_option maxHeartbeats 8000000 in
set_option maxRecDepth 100000 in
theorem klaxonlaw09_LabelsJoined.calls (k : Nat) (A0 : Option Addr) (c0 : Nat) (l0 : List (S47)) (A1 : Option Addr) (c1 : Nat) (l1 : List (S47)) (A2 : Option Addr) (c2 : Nat) (l2 : List ByteArray) (r : Bool) (hrt : r = true) (w : World) (hr0 : Kd.C k47 w A0 l0.length l0) (hc0 : l0.length ≤ c0) (hr1 : Kd.C k47 w A1 l1.length l1) (hc1 : l1.length ≤ c1) (hr2 : Kd.C Kd.string w A2 l2.length l2) (hc2 : l2.length ≤ c2) (h : klaxonlaw09_LabelsJoined.f k l0 l1 l2 = some r) :
    Calls Tryz.prog 6 #[.slice A0 l0.length c0, .slice A1 l1.length c1, .slice A2 l2.length c2] w fun e w' => e = .returned (.bool r) ∧ Below w.heap.size w w' := by
  have HRT := Aside0.mk hrt
  clear hrt
  have HR0 := Aside0.mk hr0
  have HC0 := Aside0.mk hc0
  clear hr0 hc0
  have HR1 := Aside0.mk hr1
  have HC1 := Aside0.mk hc1
  clear hr1 hc1
  have HR2 := Aside0.mk hr2
  have HC2 := Aside0.mk hc2
  clear hr2 hc2
  have HB := Aside0.mk (Below.refl w.heap.size w)
  have H : ((klaxonref09_Set.f l0).bind fun t268 => (if t268 = true then ((klaxonref09_Set.f l1).bind fun t269 => (if t269 = true then (klaxonlaw09_LabelsJoined.j0 k l0 l1 l2 (decide ((l2.length : Int) > 60))) else (klaxonlaw09_LabelsJoined.j0 k l0 l1 l2 true))) else (klaxonlaw09_LabelsJoined.j0 k l0 l1 l2 true))) = some r := h
  clear h
  have HC4 := Aside0.mk H
  clear H
  go_enter Tryz.func6, Tryz.ntmps6
  go_upto_region 1 with (fail)
  go_cut [30] (fun v30 wc => ∃ (kq : Nat) (x30_3 : Bool), v30 = .bool x30_3 ∧ Aside0 (klaxonlaw09_LabelsJoined.j0 kq l0 l1 l2 x30_3 = some r) ∧ Aside0 (kq ≤ k) ∧ Aside0 (Below w.heap.size w wc))
  case first =>
    have H := HC4.out
    clear HC4
    replace H := Option.bind_eq_some_iff.mp H
    obtain ⟨t268, A50, H⟩ := H
    replace H : (if t268 = true then ((klaxonref09_Set.f l1).bind fun t269 => (if t269 = true then (klaxonlaw09_LabelsJoined.j0 k l0 l1 l2 (decide ((l2.length : Int) > 60))) else (klaxonlaw09_LabelsJoined.j0 k l0 l1 l2 true))) else (klaxonlaw09_LabelsJoined.j0 k l0 l1 l2 true)) = some r := H
    have A5 := Aside0.mk A50
    clear A50
    by_cases c6 : t268 = true
    · subst c6
      have H1 : ((klaxonref09_Set.f l1).bind fun t269 => (if t269 = true then (klaxonlaw09_LabelsJoined.j0 k l0 l1 l2 (decide ((l2.length : Int) > 60))) else (klaxonlaw09_LabelsJoined.j0 k l0 l1 l2 true))) = some r := by rw [if_pos rfl] at H; exact H
      clear H
      have H := H1
      clear H1
      replace H := Option.bind_eq_some_iff.mp H
      obtain ⟨t269, A70, H⟩ := H
      replace H : (if t269 = true then (klaxonlaw09_LabelsJoined.j0 k l0 l1 l2 (decide ((l2.length : Int) > 60))) else (klaxonlaw09_LabelsJoined.j0 k l0 l1 l2 true)) = some r := H
      have A7 := Aside0.mk A70
      clear A70
      by_cases c8 : t269 = true
      · subst c8
        have H1 : (klaxonlaw09_LabelsJoined.j0 k l0 l1 l2 (decide ((l2.length : Int) > 60))) = some r := by rw [if_pos rfl] at H; exact H
        clear H
        have H := H1
        clear H1
        have H' := Aside0.mk H
        clear H
        go_wp2_with (first | ((with_reducible refine gate_callee (f := 17) rfl ?_); refine goesL_ (some 19) rfl rfl Tryz.func17 (by kernel_rfl) rfl #[.slice A0 l0.length c0] rfl (by (try simp only [List.map_toArray, List.map_cons, List.map_nil]); first | done | rfl | (simp only [List.length_drop, List.length_take]; rfl)) ?_; (with_reducible refine (klaxonref09_Set.calls _ _ l0 true _ ?side1 ?side2 A5.out).mono ?_); (case side1 => repeat (first | exact (Kd.C_below HR0.out HB.out) | (with_reducible refine Kd.C_alloc ?_ _) | (with_reducible refine Kd.C_drewN ?_ _) | (with_reducible refine Kd.C_drew ?_))); (case side2 => exact HC0.out); rintro e w9 ⟨rfl, hb⟩; refine ⟨_, rfl, ?_⟩; have n0_ := Aside0.mk (below_step (by repeat (first | (with_reducible first | exact HB.out | apply below_alloc | apply pw_below_drewN | apply below_drew1) | exact HB.out)) hb); clear HB; have HB := n0_; clear n0_; (try clear hb); (try clear hb2); (try clear hk); (try clear hi)) | (go_at_call 17; (with_reducible refine (klaxonref09_Set.calls _ _ l1 true _ ?side1 ?side2 A7.out).mono ?_); (case side1 => repeat (first | exact (Kd.C_below HR1.out HB.out) | (with_reducible refine Kd.C_alloc ?_ _) | (with_reducible refine Kd.C_drewN ?_ _) | (with_reducible refine Kd.C_drew ?_))); (case side2 => exact HC1.out); rintro e w10 ⟨rfl, hb⟩; have n0_ := Aside0.mk (below_step (by repeat (first | (with_reducible first | exact HB.out | apply below_alloc | apply pw_below_drewN | apply below_drew1) | exact HB.out)) hb); clear HB; have HB := n0_; clear n0_; (try clear hb); (try clear hb2); (try clear hk); (try clear hi)))
        go_meet
        case rel => exact ⟨_, (decide ((l2.length : Int) > 60)), (by first | rfl | (simp; done) | (simp [*]; done)), H', ⟨by first | omega | exact Nat.le_refl _⟩, ⟨by repeat (first | (with_reducible first | exact HB.out | apply below_alloc | apply pw_below_drewN | apply below_drew1) | exact HB.out)⟩⟩
      · replace c8 := Bool.eq_false_iff.mpr c8
        subst c8
        have H1 : (klaxonlaw09_LabelsJoined.j0 k l0 l1 l2 true) = some r := by rw [if_neg (show ¬ (false = true) by decide)] at H; exact H
        clear H
        have H := H1
        clear H1
        have H' := Aside0.mk H
        clear H
        go_wp2_with (first | ((with_reducible refine gate_callee (f := 17) rfl ?_); refine goesL_ (some 19) rfl rfl Tryz.func17 (by kernel_rfl) rfl #[.slice A0 l0.length c0] rfl (by (try simp only [List.map_toArray, List.map_cons, List.map_nil]); first | done | rfl | (simp only [List.length_drop, List.length_take]; rfl)) ?_; (with_reducible refine (klaxonref09_Set.calls _ _ l0 true _ ?side1 ?side2 A5.out).mono ?_); (case side1 => repeat (first | exact (Kd.C_below HR0.out HB.out) | (with_reducible refine Kd.C_alloc ?_ _) | (with_reducible refine Kd.C_drewN ?_ _) | (with_reducible refine Kd.C_drew ?_))); (case side2 => exact HC0.out); rintro e w11 ⟨rfl, hb⟩; refine ⟨_, rfl, ?_⟩; have n0_ := Aside0.mk (below_step (by repeat (first | (with_reducible first | exact HB.out | apply below_alloc | apply pw_below_drewN | apply below_drew1) | exact HB.out)) hb); clear HB; have HB := n0_; clear n0_; (try clear hb); (try clear hb2); (try clear hk); (try clear hi)) | (go_at_call 17; (with_reducible refine (klaxonref09_Set.calls _ _ l1 false _ ?side1 ?side2 A7.out).mono ?_); (case side1 => repeat (first | exact (Kd.C_below HR1.out HB.out) | (with_reducible refine Kd.C_alloc ?_ _) | (with_reducible refine Kd.C_drewN ?_ _) | (with_reducible refine Kd.C_drew ?_))); (case side2 => exact HC1.out); rintro e w12 ⟨rfl, hb⟩; have n0_ := Aside0.mk (below_step (by repeat (first | (with_reducible first | exact HB.out | apply below_alloc | apply pw_below_drewN | apply below_drew1) | exact HB.out)) hb); clear HB; have HB := n0_; clear n0_; (try clear hb); (try clear hb2); (try clear hk); (try clear hi)))
        go_meet
        case rel => exact ⟨_, (true), (by first | rfl | (simp; done) | (simp [*]; done)), H', ⟨by first | omega | exact Nat.le_refl _⟩, ⟨by repeat (first | (with_reducible first | exact HB.out | apply below_alloc | apply pw_below_drewN | apply below_drew1) | exact HB.out)⟩⟩
    · replace c6 := Bool.eq_false_iff.mpr c6
      subst c6
      have H1 : (klaxonlaw09_LabelsJoined.j0 k l0 l1 l2 true) = some r := by rw [if_neg (show ¬ (false = true) by decide)] at H; exact H
      clear H
      have H := H1
      clear H1
      have H' := Aside0.mk H
      clear H
      go_wp2_with (first | ((with_reducible refine gate_callee (f := 17) rfl ?_); refine goesL_ (some 19) rfl rfl Tryz.func17 (by kernel_rfl) rfl #[.slice A0 l0.length c0] rfl (by (try simp only [List.map_toArray, List.map_cons, List.map_nil]); first | done | rfl | (simp only [List.length_drop, List.length_take]; rfl)) ?_; (with_reducible refine (klaxonref09_Set.calls _ _ l0 false _ ?side1 ?side2 A5.out).mono ?_); (case side1 => repeat (first | exact (Kd.C_below HR0.out HB.out) | (with_reducible refine Kd.C_alloc ?_ _) | (with_reducible refine Kd.C_drewN ?_ _) | (with_reducible refine Kd.C_drew ?_))); (case side2 => exact HC0.out); rintro e w13 ⟨rfl, hb⟩; refine ⟨_, rfl, ?_⟩; have n0_ := Aside0.mk (below_step (by repeat (first | (with_reducible first | exact HB.out | apply below_alloc | apply pw_below_drewN | apply below_drew1) | exact HB.out)) hb); clear HB; have HB := n0_; clear n0_; (try clear hb); (try clear hb2); (try clear hk); (try clear hi)))
      go_meet
      case rel => exact ⟨_, (true), (by first | rfl | (simp; done) | (simp [*]; done)), H', ⟨by first | omega | exact Nat.le_refl _⟩, ⟨by repeat (first | (with_reducible first | exact HB.out | apply below_alloc | apply pw_below_drewN | apply below_drew1) | exact HB.out)⟩⟩
  case rest =>
    clear HC4
    try clear c1
    try clear c2
    try clear p2
    try clear c6
    try clear c8
    obtain ⟨kq, x30_3, rfl, HA, HJ3, HB⟩ := hcut
    cases kq with
    | zero => exact absurd HA.out (by simp [klaxonlaw09_LabelsJoined.j0])
    | succ kj3 =>
      have H := HA.out
      clear HA
      simp only [klaxonlaw09_LabelsJoined.j0] at H
      by_cases c14 : x30_3 = true
      · subst c14
        have H1 : ((klaxonlaw09_live.f kj3).bind fun t270 => (some t270)) = some r := by rw [if_pos rfl] at H; exact H
        clear H
        have H := H1
        clear H1
        replace H := Option.bind_eq_some_iff.mp H
        obtain ⟨t270, A150, H⟩ := H
        replace H : (some t270) = some r := H
        have A15 := Aside0.mk A150
        clear A150
        obtain rfl := Option.some.inj H
        go_wp2_with (first | ((with_reducible refine gate_callee (f := 11) rfl ?_); refine goesL_ (some 31) rfl rfl Tryz.func11 (by kernel_rfl) rfl #[] rfl (by (try simp only [List.map_toArray, List.map_cons, List.map_nil]); first | done | rfl | (simp only [List.length_drop, List.length_take]; rfl)) ?_; (with_reducible refine (klaxonlaw09_live.calls kj3  t270 _ A15.out).mono ?_); rintro e w16 ⟨rfl, hb⟩; refine ⟨_, rfl, ?_⟩; have n0_ := Aside0.mk (below_step (by repeat (first | (with_reducible first | exact HB.out | apply below_alloc | apply pw_below_drewN | apply below_drew1) | exact HB.out)) hb); clear HB; have HB := n0_; clear n0_; (try clear hb); (try clear hb2); (try clear hk); (try clear hi)))
        go_ret
        exact ⟨by first | rfl | (simp [errW_none, errW_some] <;> rfl) | (simp [*, errW_none, errW_some] <;> rfl), by repeat (first | (with_reducible first | exact HB.out | apply below_alloc | apply pw_below_drewN | apply below_drew1) | exact HB.out)⟩
      · replace c14 := Bool.eq_false_iff.mpr c14
        subst c14
        have H1 : ((labels_Join.f kj3 l0 l1).bind fun bt271 => ((labels_Join.f kj3 l1 l0).bind fun bt275 => ((labels_Only.f l0 l2).bind fun t279 => ((labels_Without.f l0 l2).bind fun t282 => ((labels_Join.f kj3 t282 t279).bind fun bt285 => ((labels_Join.f kj3 l0 t279).bind fun bt289 => (if (bt271.2 != bt275.2) = true then (klaxonlaw09_LabelsJoined.j1 kj3 l0 bt271.1 bt271.2 true) else ((klaxonref09_Same.f kj3 bt271.1 bt275.1).bind fun t293 => (if t293 = true then (if bt285.2 = true then ((klaxonref09_Same.f kj3 bt285.1 l0).bind fun t294 => (if t294 = true then (if bt289.2 = true then ((klaxonref09_Same.f kj3 bt289.1 l0).bind fun t295 => (if t295 = true then (klaxonlaw09_LabelsJoined.j1 kj3 l0 bt271.1 bt271.2 ((wrap64 ((t279.length : Int) + (t282.length : Int))) != (l0.length : Int))) else (klaxonlaw09_LabelsJoined.j1 kj3 l0 bt271.1 bt271.2 true))) else (klaxonlaw09_LabelsJoined.j1 kj3 l0 bt271.1 bt271.2 true)) else (klaxonlaw09_LabelsJoined.j1 kj3 l0 bt271.1 bt271.2 true))) else (klaxonlaw09_LabelsJoined.j1 kj3 l0 bt271.1 bt271.2 true)) else (klaxonlaw09_LabelsJoined.j1 kj3 l0 bt271.1 bt271.2 true)))))))))) = some r := by rw [if_neg (show ¬ (false = true) by decide)] at H; exact H
        clear H
        have H := H1
        clear H1
        replace H := Option.bind_eq_some_iff.mp H
        obtain ⟨⟨t271, t272⟩, A170, H⟩ := H
        replace H : ((labels_Join.f kj3 l1 l0).bind fun bt275 => ((labels_Only.f l0 l2).bind fun t279 => ((labels_Without.f l0 l2).bind fun t282 => ((labels_Join.f kj3 t282 t279).bind fun bt285 => ((labels_Join.f kj3 l0 t279).bind fun bt289 => (if (t272 != bt275.2) = true then (klaxonlaw09_LabelsJoined.j1 kj3 l0 t271 t272 true) else ((klaxonref09_Same.f kj3 t271 bt275.1).bind fun t293 => (if t293 = true then (if bt285.2 = true then ((klaxonref09_Same.f kj3 bt285.1 l0).bind fun t294 => (if t294 = true then (if bt289.2 = true then ((klaxonref09_Same.f kj3 bt289.1 l0).bind fun t295 => (if t295 = true then (klaxonlaw09_LabelsJoined.j1 kj3 l0 t271 t272 ((wrap64 ((t279.length : Int) + (t282.length : Int))) != (l0.length : Int))) else (klaxonlaw09_LabelsJoined.j1 kj3 l0 t271 t272 true))) else (klaxonlaw09_LabelsJoined.j1 kj3 l0 t271 t272 true)) else (klaxonlaw09_LabelsJoined.j1 kj3 l0 t271 t272 true))) else (klaxonlaw09_LabelsJoined.j1 kj3 l0 t271 t272 true)) else (klaxonlaw09_LabelsJoined.j1 kj3 l0 t271 t272 true))))))))) = some r := H
        have A17 := Aside0.mk A170
        clear A170
        replace H := Option.bind_eq_some_iff.mp H
        obtain ⟨⟨t275, t276⟩, A180, H⟩ := H
        replace H : ((labels_Only.f l0 l2).bind fun t279 => ((labels_Without.f l0 l2).bind fun t282 => ((labels_Join.f kj3 t282 t279).bind fun bt285 => ((labels_Join.f kj3 l0 t279).bind fun bt289 => (if (t272 != t276) = true then (klaxonlaw09_LabelsJoined.j1 kj3 l0 t271 t272 true) else ((klaxonref09_Same.f kj3 t271 t275).bind fun t293 => (if t293 = true then (if bt285.2 = true then ((klaxonref09_Same.f kj3 bt285.1 l0).bind fun t294 => (if t294 = true then (if bt289.2 = true then ((klaxonref09_Same.f kj3 bt289.1 l0).bind fun t295 => (if t295 = true then (klaxonlaw09_LabelsJoined.j1 kj3 l0 t271 t272 ((wrap64 ((t279.length : Int) + (t282.length : Int))) != (l0.length : Int))) else (klaxonlaw09_LabelsJoined.j1 kj3 l0 t271 t272 true))) else (klaxonlaw09_LabelsJoined.j1 kj3 l0 t271 t272 true)) else (klaxonlaw09_LabelsJoined.j1 kj3 l0 t271 t272 true))) else (klaxonlaw09_LabelsJoined.j1 kj3 l0 t271 t272 true)) else (klaxonlaw09_LabelsJoined.j1 kj3 l0 t271 t272 true)))))))) = some r := H
        have A18 := Aside0.mk A180
        clear A180
        replace H := Option.bind_eq_some_iff.mp H
        obtain ⟨t279, A190, H⟩ := H
        replace H : ((labels_Without.f l0 l2).bind fun t282 => ((labels_Join.f kj3 t282 t279).bind fun bt285 => ((labels_Join.f kj3 l0 t279).bind fun bt289 => (if (t272 != t276) = true then (klaxonlaw09_LabelsJoined.j1 kj3 l0 t271 t272 true) else ((klaxonref09_Same.f kj3 t271 t275).bind fun t293 => (if t293 = true then (if bt285.2 = true then ((klaxonref09_Same.f kj3 bt285.1 l0).bind fun t294 => (if t294 = true then (if bt289.2 = true then ((klaxonref09_Same.f kj3 bt289.1 l0).bind fun t295 => (if t295 = true then (klaxonlaw09_LabelsJoined.j1 kj3 l0 t271 t272 ((wrap64 ((t279.length : Int) + (t282.length : Int))) != (l0.length : Int))) else (klaxonlaw09_LabelsJoined.j1 kj3 l0 t271 t272 true))) else (klaxonlaw09_LabelsJoined.j1 kj3 l0 t271 t272 true)) else (klaxonlaw09_LabelsJoined.j1 kj3 l0 t271 t272 true))) else (klaxonlaw09_LabelsJoined.j1 kj3 l0 t271 t272 true)) else (klaxonlaw09_LabelsJoined.j1 kj3 l0 t271 t272 true))))))) = some r := H
        have A19 := Aside0.mk A190
        clear A190
        replace H := Option.bind_eq_some_iff.mp H
        obtain ⟨t282, A200, H⟩ := H
        replace H : ((labels_Join.f kj3 t282 t279).bind fun bt285 => ((labels_Join.f kj3 l0 t279).bind fun bt289 => (if (t272 != t276) = true then (klaxonlaw09_LabelsJoined.j1 kj3 l0 t271 t272 true) else ((klaxonref09_Same.f kj3 t271 t275).bind fun t293 => (if t293 = true then (if bt285.2 = true then ((klaxonref09_Same.f kj3 bt285.1 l0).bind fun t294 => (if t294 = true then (if bt289.2 = true then ((klaxonref09_Same.f kj3 bt289.1 l0).bind fun t295 => (if t295 = true then (klaxonlaw09_LabelsJoined.j1 kj3 l0 t271 t272 ((wrap64 ((t279.length : Int) + (t282.length : Int))) != (l0.length : Int))) else (klaxonlaw09_LabelsJoined.j1 kj3 l0 t271 t272 true))) else (klaxonlaw09_LabelsJoined.j1 kj3 l0 t271 t272 true)) else (klaxonlaw09_LabelsJoined.j1 kj3 l0 t271 t272 true))) else (klaxonlaw09_LabelsJoined.j1 kj3 l0 t271 t272 true)) else (klaxonlaw09_LabelsJoined.j1 kj3 l0 t271 t272 true)))))) = some r := H
        have A20 := Aside0.mk A200
        clear A200
        replace H := Option.bind_eq_some_iff.mp H
        obtain ⟨⟨t285, t286⟩, A210, H⟩ := H
        replace H : ((labels_Join.f kj3 l0 t279).bind fun bt289 => (if (t272 != t276) = true then (klaxonlaw09_LabelsJoined.j1 kj3 l0 t271 t272 true) else ((klaxonref09_Same.f kj3 t271 t275).bind fun t293 => (if t293 = true then (if t286 = true then ((klaxonref09_Same.f kj3 t285 l0).bind fun t294 => (if t294 = true then (if bt289.2 = true then ((klaxonref09_Same.f kj3 bt289.1 l0).bind fun t295 => (if t295 = true then (klaxonlaw09_LabelsJoined.j1 kj3 l0 t271 t272 ((wrap64 ((t279.length : Int) + (t282.length : Int))) != (l0.length : Int))) else (klaxonlaw09_LabelsJoined.j1 kj3 l0 t271 t272 true))) else (klaxonlaw09_LabelsJoined.j1 kj3 l0 t271 t272 true)) else (klaxonlaw09_LabelsJoined.j1 kj3 l0 t271 t272 true))) else (klaxonlaw09_LabelsJoined.j1 kj3 l0 t271 t272 true)) else (klaxonlaw09_LabelsJoined.j1 kj3 l0 t271 t272 true))))) = some r := H
        have A21 := Aside0.mk A210
        clear A210
        replace H := Option.bind_eq_some_iff.mp H
        obtain ⟨⟨t289, t290⟩, A220, H⟩ := H
        replace H : (if (t272 != t276) = true then (klaxonlaw09_LabelsJoined.j1 kj3 l0 t271 t272 true) else ((klaxonref09_Same.f kj3 t271 t275).bind fun t293 => (if t293 = true then (if t286 = true then ((klaxonref09_Same.f kj3 t285 l0).bind fun t294 => (if t294 = true then (if t290 = true then ((klaxonref09_Same.f kj3 t289 l0).bind fun t295 => (if t295 = true then (klaxonlaw09_LabelsJoined.j1 kj3 l0 t271 t272 ((wrap64 ((t279.length : Int) + (t282.length : Int))) != (l0.length : Int))) else (klaxonlaw09_LabelsJoined.j1 kj3 l0 t271 t272 true))) else (klaxonlaw09_LabelsJoined.j1 kj3 l0 t271 t272 true)) else (klaxonlaw09_LabelsJoined.j1 kj3 l0 t271 t272 true))) else (klaxonlaw09_LabelsJoined.j1 kj3 l0 t271 t272 true)) else (klaxonlaw09_LabelsJoined.j1 kj3 l0 t271 t272 true)))) = some r := H
        have A22 := Aside0.mk A220
        clear A220
        have HC23 := Aside0.mk H
        clear H
        go_upto_region 8 with (first | ((with_reducible refine gate_callee (f := 22) rfl ?_); refine goesL_ (some 35) rfl rfl Tryz.func22 (by kernel_rfl) rfl #[.slice A0 l0.length c0, .slice A1 l1.length c1] rfl (by (try simp only [List.map_toArray, List.map_cons, List.map_nil]); first | done | rfl | (simp only [List.length_drop, List.length_take]; rfl)) ?_; (with_reducible refine (labels_Join.calls kj3 _ _ l0 _ _ l1 t271 t272 _ ?side1 ?side2 ?side3 ?side4 A17.out).mono ?_); (case side1 => repeat (first | exact (Kd.C_below HR0.out HB.out) | (with_reducible refine Kd.C_alloc ?_ _) | (with_reducible refine Kd.C_drewN ?_ _) | (with_reducible refine Kd.C_drew ?_))); (case side2 => exact HC0.out); (case side3 => repeat (first | exact (Kd.C_below HR1.out HB.out) | (with_reducible refine Kd.C_alloc ?_ _) | (with_reducible refine Kd.C_drewN ?_ _) | (with_reducible refine Kd.C_drew ?_))); (case side4 => exact HC1.out); rintro e w24 ⟨v273, rfl, ho0, hb⟩; refine ⟨_, rfl, ?_⟩; have n0_ := Aside0.mk (Kd.R_lower ho0 (below_size (by repeat (first | (with_reducible first | exact HB.out | apply below_alloc | apply pw_below_drewN | apply below_drew1) | exact HB.out)))); have n1_ := Aside0.mk (below_step (by repeat (first | (with_reducible first | exact HB.out | apply below_alloc | apply pw_below_drewN | apply below_drew1) | exact HB.out)) hb); clear HB; have HO274 := n0_; have HB := n1_; clear n0_ n1_; (try clear hb); (try clear hb2); (try clear hk); (try clear hi); (try clear ho0)) | ((with_reducible refine gate_callee (f := 22) rfl ?_); refine goesL_ (some 41) rfl rfl Tryz.func22 (by kernel_rfl) rfl #[.slice A1 l1.length c1, .slice A0 l0.length c0] rfl (by (try simp only [List.map_toArray, List.map_cons, List.map_nil]); first | done | rfl | (simp only [List.length_drop, List.length_take]; rfl)) ?_; (with_reducible refine (labels_Join.calls kj3 _ _ l1 _ _ l0 t275 t276 _ ?side1 ?side2 ?side3 ?side4 A18.out).mono ?_); (case side1 => repeat (first | exact (Kd.C_below HR1.out HB.out) | (with_reducible refine Kd.C_alloc ?_ _) | (with_reducible refine Kd.C_drewN ?_ _) | (with_reducible refine Kd.C_drew ?_))); (case side2 => exact HC1.out); (case side3 => repeat (first | exact (Kd.C_below HR0.out HB.out) | (with_reducible refine Kd.C_alloc ?_ _) | (with_reducible refine Kd.C_drewN ?_ _) | (with_reducible refine Kd.C_drew ?_))); (case side4 => exact HC0.out); rintro e w25 ⟨v277, rfl, ho0, hb⟩; refine ⟨_, rfl, ?_⟩; have n0_ := Aside0.mk (Kd.R_elder' (by (with_reducible repeat (first | apply Kd.R_alloc | apply Kd.R_drewN | apply Kd.R_drew)); exact HO274.out) (Kd.R_base ho0) hb); have n1_ := Aside0.mk (Kd.R_lower (Kd.R_new' ho0 (Kd.R_lt (by (with_reducible repeat (first | apply Kd.R_alloc | apply Kd.R_drewN | apply Kd.R_drew)); exact HO274.out))) (below_size (by repeat (first | (with_reducible first | exact HB.out | apply below_alloc | apply pw_below_drewN | apply below_drew1) | exact HB.out)))); have n2_ := Aside0.mk (below_step (by repeat (first | (with_reducible first | exact HB.out | apply below_alloc | apply pw_below_drewN | apply below_drew1) | exact HB.out)) hb); clear HO274; clear HB; have HO274 := n0_; have HO278 := n1_; have HB := n2_; clear n0_ n1_ n2_; (try clear hb); (try clear hb2); (try clear hk); (try clear hi); (try clear ho0)) | ((with_reducible refine gate_callee (f := 23) rfl ?_); refine goesL_ (some 46) rfl rfl Tryz.func23 (by kernel_rfl) rfl #[.slice A0 l0.length c0, .slice A2 l2.length c2] rfl (by (try simp only [List.map_toArray, List.map_cons, List.map_nil]); first | done | rfl | (simp only [List.length_drop, List.length_take]; rfl)) ?_; (with_reducible refine (labels_Only.calls _ _ l0 _ _ l2 t279 _ ?side1 ?side2 ?side3 ?side4 A19.out).mono ?_); (case side1 => repeat (first | exact (Kd.C_below HR0.out HB.out) | (with_reducible refine Kd.C_alloc ?_ _) | (with_reducible refine Kd.C_drewN ?_ _) | (with_reducible refine Kd.C_drew ?_))); (case side2 => exact HC0.out); (case side3 => repeat (first | exact (Kd.C_below HR2.out HB.out) | (with_reducible refine Kd.C_alloc ?_ _) | (with_reducible refine Kd.C_drewN ?_ _) | (with_reducible refine Kd.C_drew ?_))); (case side4 => exact HC2.out); rintro e w26 ⟨v280, rfl, ho0, hb⟩; refine ⟨_, rfl, ?_⟩; have n0_ := Aside0.mk (Kd.R_elder' (by (with_reducible repeat (first | apply Kd.R_alloc | apply Kd.R_drewN | apply Kd.R_drew)); exact HO274.out) (Kd.R_base ho0) hb); have n1_ := Aside0.mk (Kd.R_elder' (by (with_reducible repeat (first | apply Kd.R_alloc | apply Kd.R_drewN | apply Kd.R_drew)); exact HO278.out) (Kd.R_base ho0) hb); have n2_ := Aside0.mk (Kd.R_lower (Kd.R_new' (Kd.R_new' ho0 (Kd.R_lt (by (with_reducible repeat (first | apply Kd.R_alloc | apply Kd.R_drewN | apply Kd.R_drew)); exact HO274.out))) (Kd.R_lt (by (with_reducible repeat (first | apply Kd.R_alloc | apply Kd.R_drewN | apply Kd.R_drew)); exact HO278.out))) (below_size (by repeat (first | (with_reducible first | exact HB.out | apply below_alloc | apply pw_below_drewN | apply below_drew1) | exact HB.out)))); have n3_ := Aside0.mk (below_step (by repeat (first | (with_reducible first | exact HB.out | apply below_alloc | apply pw_below_drewN | apply below_drew1) | exact HB.out)) hb); clear HO274; clear HO278; clear HB; have HO274 := n0_; have HO278 := n1_; have HO281 := n2_; have HB := n3_; clear n0_ n1_ n2_ n3_; (try clear hb); (try clear hb2); (try clear hk); (try clear hi); (try clear ho0)) | ((with_reducible refine gate_callee (f := 24) rfl ?_); refine goesL_ (some 49) rfl rfl Tryz.func24 (by kernel_rfl) rfl #[.slice A0 l0.length c0, .slice A2 l2.length c2] rfl (by (try simp only [List.map_toArray, List.map_cons, List.map_nil]); first | done | rfl | (simp only [List.length_drop, List.length_take]; rfl)) ?_; (with_reducible refine (labels_Without.calls _ _ l0 _ _ l2 t282 _ ?side1 ?side2 ?side3 ?side4 A20.out).mono ?_); (case side1 => repeat (first | exact (Kd.C_below HR0.out HB.out) | (with_reducible refine Kd.C_alloc ?_ _) | (with_reducible refine Kd.C_drewN ?_ _) | (with_reducible refine Kd.C_drew ?_))); (case side2 => exact HC0.out); (case side3 => repeat (first | exact (Kd.C_below HR2.out HB.out) | (with_reducible refine Kd.C_alloc ?_ _) | (with_reducible refine Kd.C_drewN ?_ _) | (with_reducible refine Kd.C_drew ?_))); (case side4 => exact HC2.out); rintro e w27 ⟨v283, rfl, ho0, hb⟩; refine ⟨_, rfl, ?_⟩; have n0_ := Aside0.mk (Kd.R_elder' (by (with_reducible repeat (first | apply Kd.R_alloc | apply Kd.R_drewN | apply Kd.R_drew)); exact HO274.out) (Kd.R_base ho0) hb); have n1_ := Aside0.mk (Kd.R_elder' (by (with_reducible repeat (first | apply Kd.R_alloc | apply Kd.R_drewN | apply Kd.R_drew)); exact HO278.out) (Kd.R_base ho0) hb); have n2_ := Aside0.mk (Kd.R_elder' (by (with_reducible repeat (first | apply Kd.R_alloc | apply Kd.R_drewN | apply Kd.R_drew)); exact HO281.out) (Kd.R_base ho0) hb); have n3_ := Aside0.mk (Kd.R_lower (Kd.R_new' (Kd.R_new' (Kd.R_new' ho0 (Kd.R_lt (by (with_reducible repeat (first | apply Kd.R_alloc | apply Kd.R_drewN | apply Kd.R_drew)); exact HO274.out))) (Kd.R_lt (by (with_reducible repeat (first | apply Kd.R_alloc | apply Kd.R_drewN | apply Kd.R_drew)); exact HO278.out))) (Kd.R_lt (by (with_reducible repeat (first | apply Kd.R_alloc | apply Kd.R_drewN | apply Kd.R_drew)); exact HO281.out))) (below_size (by repeat (first | (with_reducible first | exact HB.out | apply below_alloc | apply pw_below_drewN | apply below_drew1) | exact HB.out)))); have n4_ := Aside0.mk (below_step (by repeat (first | (with_reducible first | exact HB.out | apply below_alloc | apply pw_below_drewN | apply below_drew1) | exact HB.out)) hb); clear HO274; clear HO278; clear HO281; clear HB; have HO274 := n0_; have HO278 := n1_; have HO281 := n2_; have HO284 := n3_; have HB := n4_; clear n0_ n1_ n2_ n3_ n4_; (try clear hb); (try clear hb2); (try clear hk); (try clear hi); (try clear ho0); obtain ⟨Ao28, co28, eo28⟩ := Kd.R_slice HO284.out; subst eo28; obtain ⟨Ao29, co29, eo29⟩ := Kd.R_slice HO281.out; subst eo29) | ((with_reducible refine gate_callee (f := 22) rfl ?_); refine goesL_ (some 53) rfl rfl Tryz.func22 (by kernel_rfl) rfl #[.slice Ao28 t282.length co28, .slice Ao29 t279.length co29] rfl (by (try simp only [List.map_toArray, List.map_cons, List.map_nil]); first | done | rfl | (simp only [List.length_drop, List.length_take]; rfl)) ?_; (with_reducible refine (labels_Join.calls kj3 _ _ t282 _ _ t279 t285 t286 _ ?side1 ?side2 ?side3 ?side4 A21.out).mono ?_); (case side1 => repeat (first | exact (Kd.R_reads' HO284.out).2.2 | (with_reducible refine Kd.C_alloc ?_ _) | (with_reducible refine Kd.C_drewN ?_ _) | (with_reducible refine Kd.C_drew ?_))); (case side2 => exact (Kd.R_reads' HO284.out).2.1); (case side3 => repeat (first | exact (Kd.R_reads' HO281.out).2.2 | (with_reducible refine Kd.C_alloc ?_ _) | (with_reducible refine Kd.C_drewN ?_ _) | (with_reducible refine Kd.C_drew ?_))); (case side4 => exact (Kd.R_reads' HO281.out).2.1); rintro e w30 ⟨v287, rfl, ho0, hb⟩; refine ⟨_, rfl, ?_⟩; have n0_ := Aside0.mk (Kd.R_elder' (by (with_reducible repeat (first | apply Kd.R_alloc | apply Kd.R_drewN | apply Kd.R_drew)); exact HO274.out) (Kd.R_base ho0) hb); have n1_ := Aside0.mk (Kd.R_elder' (by (with_reducible repeat (first | apply Kd.R_alloc | apply Kd.R_drewN | apply Kd.R_drew)); exact HO278.out) (Kd.R_base ho0) hb); have n2_ := Aside0.mk (Kd.R_elder' (by (with_reducible repeat (first | apply Kd.R_alloc | apply Kd.R_drewN | apply Kd.R_drew)); exact HO281.out) (Kd.R_base ho0) hb); have n3_ := Aside0.mk (Kd.R_elder' (by (with_reducible repeat (first | apply Kd.R_alloc | apply Kd.R_drewN | apply Kd.R_drew)); exact HO284.out) (Kd.R_base ho0) hb); have n4_ := Aside0.mk (Kd.R_lower (Kd.R_new' (Kd.R_new' (Kd.R_new' (Kd.R_new' ho0 (Kd.R_lt (by (with_reducible repeat (first | apply Kd.R_alloc | apply Kd.R_drewN | apply Kd.R_drew)); exact HO274.out))) (Kd.R_lt (by (with_reducible repeat (first | apply Kd.R_alloc | apply Kd.R_drewN | apply Kd.R_drew)); exact HO278.out))) (Kd.R_lt (by (with_reducible repeat (first | apply Kd.R_alloc | apply Kd.R_drewN | apply Kd.R_drew)); exact HO281.out))) (Kd.R_lt (by (with_reducible repeat (first | apply Kd.R_alloc | apply Kd.R_drewN | apply Kd.R_drew)); exact HO284.out))) (below_size (by repeat (first | (with_reducible first | exact HB.out | apply below_alloc | apply pw_below_drewN | apply below_drew1) | exact HB.out)))); have n5_ := Aside0.mk (below_step (by repeat (first | (with_reducible first | exact HB.out | apply below_alloc | apply pw_below_drewN | apply below_drew1) | exact HB.out)) hb); clear HO274; clear HO278; clear HO281; clear HO284; clear HB; have HO274 := n0_; have HO278 := n1_; have HO281 := n2_; have HO284 := n3_; have HO288 := n4_; have HB := n5_; clear n0_ n1_ n2_ n3_ n4_ n5_; (try clear hb); (try clear hb2); (try clear hk); (try clear hi); (try clear ho0)) | ((with_reducible refine gate_callee (f := 22) rfl ?_); refine goesL_ (some 59) rfl rfl Tryz.func22 (by kernel_rfl) rfl #[.slice A0 l0.length c0, .slice Ao29 t279.length co29] rfl (by (try simp only [List.map_toArray, List.map_cons, List.map_nil]); first | done | rfl | (simp only [List.length_drop, List.length_take]; rfl)) ?_; (with_reducible refine (labels_Join.calls kj3 _ _ l0 _ _ t279 t289 t290 _ ?side1 ?side2 ?side3 ?side4 A22.out).mono ?_); (case side1 => repeat (first | exact (Kd.C_below HR0.out HB.out) | (with_reducible refine Kd.C_alloc ?_ _) | (with_reducible refine Kd.C_drewN ?_ _) | (with_reducible refine Kd.C_drew ?_))); (case side2 => exact HC0.out); (case side3 => repeat (first | exact (Kd.R_reads' HO281.out).2.2 | (with_reducible refine Kd.C_alloc ?_ _) | (with_reducible refine Kd.C_drewN ?_ _) | (with_reducible refine Kd.C_drew ?_))); (case side4 => exact (Kd.R_reads' HO281.out).2.1); rintro e w31 ⟨v291, rfl, ho0, hb⟩; refine ⟨_, rfl, ?_⟩; have n0_ := Aside0.mk (Kd.R_elder' (by (with_reducible repeat (first | apply Kd.R_alloc | apply Kd.R_drewN | apply Kd.R_drew)); exact HO274.out) (Kd.R_base ho0) hb); have n1_ := Aside0.mk (Kd.R_elder' (by (with_reducible repeat (first | apply Kd.R_alloc | apply Kd.R_drewN | apply Kd.R_drew)); exact HO278.out) (Kd.R_base ho0) hb); have n2_ := Aside0.mk (Kd.R_elder' (by (with_reducible repeat (first | apply Kd.R_alloc | apply Kd.R_drewN | apply Kd.R_drew)); exact HO281.out) (Kd.R_base ho0) hb); have n3_ := Aside0.mk (Kd.R_elder' (by (with_reducible repeat (first | apply Kd.R_alloc | apply Kd.R_drewN | apply Kd.R_drew)); exact HO284.out) (Kd.R_base ho0) hb); have n4_ := Aside0.mk (Kd.R_elder' (by (with_reducible repeat (first | apply Kd.R_alloc | apply Kd.R_drewN | apply Kd.R_drew)); exact HO288.out) (Kd.R_base ho0) hb); have n5_ := Aside0.mk (Kd.R_lower (Kd.R_new' (Kd.R_new' (Kd.R_new' (Kd.R_new' (Kd.R_new' ho0 (Kd.R_lt (by (with_reducible repeat (first | apply Kd.R_alloc | apply Kd.R_drewN | apply Kd.R_drew)); exact HO274.out))) (Kd.R_lt (by (with_reducible repeat (first | apply Kd.R_alloc | apply Kd.R_drewN | apply Kd.R_drew)); exact HO278.out))) (Kd.R_lt (by (with_reducible repeat (first | apply Kd.R_alloc | apply Kd.R_drewN | apply Kd.R_drew)); exact HO281.out))) (Kd.R_lt (by (with_reducible repeat (first | apply Kd.R_alloc | apply Kd.R_drewN | apply Kd.R_drew)); exact HO284.out))) (Kd.R_lt (by (with_reducible repeat (first | apply Kd.R_alloc | apply Kd.R_drewN | apply Kd.R_drew)); exact HO288.out))) (below_size (by repeat (first | (with_reducible first | exact HB.out | apply below_alloc | apply pw_below_drewN | apply below_drew1) | exact HB.out)))); have n6_ := Aside0.mk (below_step (by repeat (first | (with_reducible first | exact HB.out | apply below_alloc | apply pw_below_drewN | apply below_drew1) | exact HB.out)) hb); clear HO274; clear HO278; clear HO281; clear HO284; clear HO288; clear HB; have HO274 := n0_; have HO278 := n1_; have HO281 := n2_; have HO284 := n3_; have HO288 := n4_; have HO292 := n5_; have HB := n6_; clear n0_ n1_ n2_ n3_ n4_ n5_ n6_; (try clear hb); (try clear hb2); (try clear hk); (try clear hi); (try clear ho0)))
        (try simp only [Act.put, List.setIfInBounds_toArray, List.set_cons_zero, List.set_cons_succ])
        go_cut [100] (fun v100 wc => ∃ (kq : Nat) (x100_22 : Bool), v100 = .bool x100_22 ∧ Aside0 (klaxonlaw09_LabelsJoined.j1 kq l0 t271 t272 x100_22 = some r) ∧ Aside0 (kq ≤ kj3) ∧ Aside0 (Kd.R k47 47 wc w.heap.size (fun _ => True) v273 t271) ∧ Aside0 (Below w.heap.size w wc))
        case first =>
          have H := HC23.out
          clear HC23
          by_cases c32 : (t272 != t276) = true
          · rw [if_pos c32] at H
            have c32b0 : (t272 != t276) = true := c32
            (try (have c32b1 : decide (t272 = t276) = false := by simpa using c32))
            (try (have c32b2 : (t272 == t276) = false := by simpa using c32))
            (try (have c32b3 : ¬ (t272 = t276) := by simpa using c32))
            clear c32
            (first | rw [c32b0] | (simp only [i64_w, i32_w]; rw [c32b0]) | skip)
            have H' := Aside0.mk H
            clear H
            go_wp2
            go_meet
            case rel => exact ⟨_, (true), (by first | rfl | (simp; done) | (simp [*]; done)), H', ⟨by have := HJ3.out; first | omega | exact Nat.le_refl _⟩, ⟨by (with_reducible repeat (first | apply Kd.R_alloc | apply Kd.R_drewN | apply Kd.R_drew)); exact Kd.R_mono HO274.out (fun _ hk => trivial)⟩, ⟨by repeat (first | (with_reducible first | exact HB.out | apply below_alloc | apply pw_below_drewN | apply below_drew1) | exact HB.out)⟩⟩
          · rw [if_neg c32] at H
            have c32b0 : (t272 != t276) = false := by simpa using c32
            (try (have c32b1 : decide (t272 = t276) = true := by simpa using c32))
            (try (have c32b2 : (t272 == t276) = true := by simpa using c32))
            clear c32
            (first | rw [c32b0] | (simp only [i64_w, i32_w]; rw [c32b0]) | skip)
            replace H := Option.bind_eq_some_iff.mp H
            obtain ⟨t293, A330, H⟩ := H
            replace H : (if t293 = true then (if t286 = true then ((klaxonref09_Same.f kj3 t285 l0).bind fun t294 => (if t294 = true then (if t290 = true then ((klaxonref09_Same.f kj3 t289 l0).bind fun t295 => (if t295 = true then (klaxonlaw09_LabelsJoined.j1 kj3 l0 t271 t272 ((wrap64 ((t279.length : Int) + (t282.length : Int))) != (l0.length : Int))) else (klaxonlaw09_LabelsJoined.j1 kj3 l0 t271 t272 true))) else (klaxonlaw09_LabelsJoined.j1 kj3 l0 t271 t272 true)) else (klaxonlaw09_LabelsJoined.j1 kj3 l0 t271 t272 true))) else (klaxonlaw09_LabelsJoined.j1 kj3 l0 t271 t272 true)) else (klaxonlaw09_LabelsJoined.j1 kj3 l0 t271 t272 true)) = some r := H
            have A33 := Aside0.mk A330
            clear A330
            by_cases c34 : t293 = true
            · subst c34
              have H1 : (if t286 = true then ((klaxonref09_Same.f kj3 t285 l0).bind fun t294 => (if t294 = true then (if t290 = true then ((klaxonref09_Same.f kj3 t289 l0).bind fun t295 => (if t295 = true then (klaxonlaw09_LabelsJoined.j1 kj3 l0 t271 t272 ((wrap64 ((t279.length : Int) + (t282.length : Int))) != (l0.length : Int))) else (klaxonlaw09_LabelsJoined.j1 kj3 l0 t271 t272 true))) else (klaxonlaw09_LabelsJoined.j1 kj3 l0 t271 t272 true)) else (klaxonlaw09_LabelsJoined.j1 kj3 l0 t271 t272 true))) else (klaxonlaw09_LabelsJoined.j1 kj3 l0 t271 t272 true)) = some r := by rw [if_pos rfl] at H; exact H
              clear H
              have H := H1
              clear H1
              by_cases c35 : t286 = true
              · subst c35
                have H1 : ((klaxonref09_Same.f kj3 t285 l0).bind fun t294 => (if t294 = true then (if t290 = true then ((klaxonref09_Same.f kj3 t289 l0).bind fun t295 => (if t295 = true then (klaxonlaw09_LabelsJoined.j1 kj3 l0 t271 t272 ((wrap64 ((t279.length : Int) + (t282.length : Int))) != (l0.length : Int))) else (klaxonlaw09_LabelsJoined.j1 kj3 l0 t271 t272 true))) else (klaxonlaw09_LabelsJoined.j1 kj3 l0 t271 t272 true)) else (klaxonlaw09_LabelsJoined.j1 kj3 l0 t271 t272 true))) = some r := by rw [if_pos rfl] at H; exact H
                clear H
                have H := H1
                clear H1
                replace H := Option.bind_eq_some_iff.mp H
                obtain ⟨t294, A360, H⟩ := H
                replace H : (if t294 = true then (if t290 = true then ((klaxonref09_Same.f kj3 t289 l0).bind fun t295 => (if t295 = true then (klaxonlaw09_LabelsJoined.j1 kj3 l0 t271 t272 ((wrap64 ((t279.length : Int) + (t282.length : Int))) != (l0.length : Int))) else (klaxonlaw09_LabelsJoined.j1 kj3 l0 t271 t272 true))) else (klaxonlaw09_LabelsJoined.j1 kj3 l0 t271 t272 true)) else (klaxonlaw09_LabelsJoined.j1 kj3 l0 t271 t272 true)) = some r := H
                have A36 := Aside0.mk A360
                clear A360
                by_cases c37 : t294 = true
                · subst c37
                  have H1 : (if t290 = true then ((klaxonref09_Same.f kj3 t289 l0).bind fun t295 => (if t295 = true then (klaxonlaw09_LabelsJoined.j1 kj3 l0 t271 t272 ((wrap64 ((t279.length : Int) + (t282.length : Int))) != (l0.length : Int))) else (klaxonlaw09_LabelsJoined.j1 kj3 l0 t271 t272 true))) else (klaxonlaw09_LabelsJoined.j1 kj3 l0 t271 t272 true)) = some r := by rw [if_pos rfl] at H; exact H
                  clear H
                  have H := H1
                  clear H1
                  by_cases c38 : t290 = true
                  · subst c38
                    have H1 : ((klaxonref09_Same.f kj3 t289 l0).bind fun t295 => (if t295 = true then (klaxonlaw09_LabelsJoined.j1 kj3 l0 t271 t272 ((wrap64 ((t279.length : Int) + (t282.length : Int))) != (l0.length : Int))) else (klaxonlaw09_LabelsJoined.j1 kj3 l0 t271 t272 true))) = some r := by rw [if_pos rfl] at H; exact H
                    clear H
                    have H := H1
                    clear H1
                    replace H := Option.bind_eq_some_iff.mp H
                    obtain ⟨t295, A390, H⟩ := H
                    replace H : (if t295 = true then (klaxonlaw09_LabelsJoined.j1 kj3 l0 t271 t272 ((wrap64 ((t279.length : Int) + (t282.length : Int))) != (l0.length : Int))) else (klaxonlaw09_LabelsJoined.j1 kj3 l0 t271 t272 true)) = some r := H
                    have A39 := Aside0.mk A390
                    clear A390
                    by_cases c40 : t295 = true
                    · subst c40
                      have H1 : (klaxonlaw09_LabelsJoined.j1 kj3 l0 t271 t272 ((wrap64 ((t279.length : Int) + (t282.length : Int))) != (l0.length : Int))) = some r := by rw [if_pos rfl] at H; exact H
                      clear H
                      have H := H1
                      clear H1
                      have H' := Aside0.mk H
                      clear H
                      obtain ⟨Ao41, co41, eo41⟩ := Kd.R_slice HO274.out
                      subst eo41
                      obtain ⟨Ao42, co42, eo42⟩ := Kd.R_slice HO278.out
                      subst eo42
                      go_wp2_with (first | (go_at_call 15; (with_reducible refine (klaxonref09_Same.calls kj3 _ _ t271 _ _ t275 true _ ?side1 ?side2 ?side3 ?side4 A33.out).mono ?_); (case side1 => repeat (first | exact (Kd.R_reads' HO274.out).2.2 | (with_reducible refine Kd.C_alloc ?_ _) | (with_reducible refine Kd.C_drewN ?_ _) | (with_reducible refine Kd.C_drew ?_))); (case side2 => exact (Kd.R_reads' HO274.out).2.1); (case side3 => repeat (first | exact (Kd.R_reads' HO278.out).2.2 | (with_reducible refine Kd.C_alloc ?_ _) | (with_reducible refine Kd.C_drewN ?_ _) | (with_reducible refine Kd.C_drew ?_))); (case side4 => exact (Kd.R_reads' HO278.out).2.1); rintro e w' ⟨rfl, ⟨nd, rfl⟩⟩; obtain ⟨Ao43, co43, eo43⟩ := Kd.R_slice HO288.out; subst eo43) | (go_at_call 15; (with_reducible refine (klaxonref09_Same.calls kj3 _ _ t285 _ _ l0 true _ ?side1 ?side2 ?side3 ?side4 A36.out).mono ?_); (case side1 => repeat (first | exact (Kd.R_reads' HO288.out).2.2 | (with_reducible refine Kd.C_alloc ?_ _) | (with_reducible refine Kd.C_drewN ?_ _) | (with_reducible refine Kd.C_drew ?_))); (case side2 => exact (Kd.R_reads' HO288.out).2.1); (case side3 => repeat (first | exact (Kd.C_below HR0.out (by repeat (first | (with_reducible first | exact HB.out | apply below_alloc | apply pw_below_drewN | apply below_drew1) | exact HB.out))) | (with_reducible refine Kd.C_alloc ?_ _) | (with_reducible refine Kd.C_drewN ?_ _) | (with_reducible refine Kd.C_drew ?_))); (case side4 => exact HC0.out); rintro e w' ⟨rfl, ⟨nd, rfl⟩⟩; obtain ⟨Ao44, co44, eo44⟩ := Kd.R_slice HO292.out; subst eo44) | (go_at_call 15; (with_reducible refine (klaxonref09_Same.calls kj3 _ _ t289 _ _ l0 true _ ?side1 ?side2 ?side3 ?side4 A39.out).mono ?_); (case side1 => repeat (first | exact (Kd.R_reads' HO292.out).2.2 | (with_reducible refine Kd.C_alloc ?_ _) | (with_reducible refine Kd.C_drewN ?_ _) | (with_reducible refine Kd.C_drew ?_))); (case side2 => exact (Kd.R_reads' HO292.out).2.1); (case side3 => repeat (first | exact (Kd.C_below HR0.out (by repeat (first | (with_reducible first | exact HB.out | apply below_alloc | apply pw_below_drewN | apply below_drew1) | exact HB.out))) | (with_reducible refine Kd.C_alloc ?_ _) | (with_reducible refine Kd.C_drewN ?_ _) | (with_reducible refine Kd.C_drew ?_))); (case side4 => exact HC0.out); rintro e w' ⟨rfl, ⟨nd, rfl⟩⟩))
                      go_meet
                      case rel => exact ⟨_, (((wrap64 ((t279.length : Int) + (t282.length : Int))) != (l0.length : Int))), (by first | rfl | (simp; done) | (simp [*]; done)), H', ⟨by have := HJ3.out; first | omega | exact Nat.le_refl _⟩, ⟨by (with_reducible repeat (first | apply Kd.R_alloc | apply Kd.R_drewN | apply Kd.R_drew)); exact Kd.R_mono HO274.out (fun _ hk => trivial)⟩, ⟨by repeat (first | (with_reducible first | exact HB.out | apply below_alloc | apply pw_below_drewN | apply below_drew1) | exact HB.out)⟩⟩
                    · replace c40 := Bool.eq_false_iff.mpr c40
                      subst c40
                      have H1 : (klaxonlaw09_LabelsJoined.j1 kj3 l0 t271 t272 true) = some r := by rw [if_neg (show ¬ (false = true) by decide)] at H; exact H
                      clear H
                      have H := H1
                      clear H1
                      have H' := Aside0.mk H
                      clear H
                      obtain ⟨Ao45, co45, eo45⟩ := Kd.R_slice HO274.out
                      subst eo45
                      obtain ⟨Ao46, co46, eo46⟩ := Kd.R_slice HO278.out
                      subst eo46
                      go_wp2_with (first | (go_at_call 15; (with_reducible refine (klaxonref09_Same.calls kj3 _ _ t271 _ _ t275 true _ ?side1 ?side2 ?side3 ?side4 A33.out).mono ?_); (case side1 => repeat (first | exact (Kd.R_reads' HO274.out).2.2 | (with_reducible refine Kd.C_alloc ?_ _) | (with_reducible refine Kd.C_drewN ?_ _) | (with_reducible refine Kd.C_drew ?_))); (case side2 => exact (Kd.R_reads' HO274.out).2.1); (case side3 => repeat (first | exact (Kd.R_reads' HO278.out).2.2 | (with_reducible refine Kd.C_alloc ?_ _) | (with_reducible refine Kd.C_drewN ?_ _) | (with_reducible refine Kd.C_drew ?_))); (case side4 => exact (Kd.R_reads' HO278.out).2.1); rintro e w' ⟨rfl, ⟨nd, rfl⟩⟩; obtain ⟨Ao47, co47, eo47⟩ := Kd.R_slice HO288.out; subst eo47) | (go_at_call 15; (with_reducible refine (klaxonref09_Same.calls kj3 _ _ t285 _ _ l0 true _ ?side1 ?side2 ?side3 ?side4 A36.out).mono ?_); (case side1 => repeat (first | exact (Kd.R_reads' HO288.out).2.2 | (with_reducible refine Kd.C_alloc ?_ _) | (with_reducible refine Kd.C_drewN ?_ _) | (with_reducible refine Kd.C_drew ?_))); (case side2 => exact (Kd.R_reads' HO288.out).2.1); (case side3 => repeat (first | exact (Kd.C_below HR0.out (by repeat (first | (with_reducible first | exact HB.out | apply below_alloc | apply pw_below_drewN | apply below_drew1) | exact HB.out))) | (with_reducible refine Kd.C_alloc ?_ _) | (with_reducible refine Kd.C_drewN ?_ _) | (with_reducible refine Kd.C_drew ?_))); (case side4 => exact HC0.out); rintro e w' ⟨rfl, ⟨nd, rfl⟩⟩; obtain ⟨Ao48, co48, eo48⟩ := Kd.R_slice HO292.out; subst eo48) | (go_at_call 15; (with_reducible refine (klaxonref09_Same.calls kj3 _ _ t289 _ _ l0 false _ ?side1 ?side2 ?side3 ?side4 A39.out).mono ?_); (case side1 => repeat (first | exact (Kd.R_reads' HO292.out).2.2 | (with_reducible refine Kd.C_alloc ?_ _) | (with_reducible refine Kd.C_drewN ?_ _) | (with_reducible refine Kd.C_drew ?_))); (case side2 => exact (Kd.R_reads' HO292.out).2.1); (case side3 => repeat (first | exact (Kd.C_below HR0.out (by repeat (first | (with_reducible first | exact HB.out | apply below_alloc | apply pw_below_drewN | apply below_drew1) | exact HB.out))) | (with_reducible refine Kd.C_alloc ?_ _) | (with_reducible refine Kd.C_drewN ?_ _) | (with_reducible refine Kd.C_drew ?_))); (case side4 => exact HC0.out); rintro e w' ⟨rfl, ⟨nd, rfl⟩⟩))
                      go_meet
                      case rel => exact ⟨_, (true), (by first | rfl | (simp; done) | (simp [*]; done)), H', ⟨by have := HJ3.out; first | omega | exact Nat.le_refl _⟩, ⟨by (with_reducible repeat (first | apply Kd.R_alloc | apply Kd.R_drewN | apply Kd.R_drew)); exact Kd.R_mono HO274.out (fun _ hk => trivial)⟩, ⟨by repeat (first | (with_reducible first | exact HB.out | apply below_alloc | apply pw_below_drewN | apply below_drew1) | exact HB.out)⟩⟩
                  · replace c38 := Bool.eq_false_iff.mpr c38
                    subst c38
                    have H1 : (klaxonlaw09_LabelsJoined.j1 kj3 l0 t271 t272 true) = some r := by rw [if_neg (show ¬ (false = true) by decide)] at H; exact H
                    clear H
                    have H := H1
                    clear H1
                    have H' := Aside0.mk H
                    clear H
                    obtain ⟨Ao49, co49, eo49⟩ := Kd.R_slice HO274.out
                    subst eo49
                    obtain ⟨Ao50, co50, eo50⟩ := Kd.R_slice HO278.out
                    subst eo50
                    go_wp2_with (first | (go_at_call 15; (with_reducible refine (klaxonref09_Same.calls kj3 _ _ t271 _ _ t275 true _ ?side1 ?side2 ?side3 ?side4 A33.out).mono ?_); (case side1 => repeat (first | exact (Kd.R_reads' HO274.out).2.2 | (with_reducible refine Kd.C_alloc ?_ _) | (with_reducible refine Kd.C_drewN ?_ _) | (with_reducible refine Kd.C_drew ?_))); (case side2 => exact (Kd.R_reads' HO274.out).2.1); (case side3 => repeat (first | exact (Kd.R_reads' HO278.out).2.2 | (with_reducible refine Kd.C_alloc ?_ _) | (with_reducible refine Kd.C_drewN ?_ _) | (with_reducible refine Kd.C_drew ?_))); (case side4 => exact (Kd.R_reads' HO278.out).2.1); rintro e w' ⟨rfl, ⟨nd, rfl⟩⟩; obtain ⟨Ao51, co51, eo51⟩ := Kd.R_slice HO288.out; subst eo51) | (go_at_call 15; (with_reducible refine (klaxonref09_Same.calls kj3 _ _ t285 _ _ l0 true _ ?side1 ?side2 ?side3 ?side4 A36.out).mono ?_); (case side1 => repeat (first | exact (Kd.R_reads' HO288.out).2.2 | (with_reducible refine Kd.C_alloc ?_ _) | (with_reducible refine Kd.C_drewN ?_ _) | (with_reducible refine Kd.C_drew ?_))); (case side2 => exact (Kd.R_reads' HO288.out).2.1); (case side3 => repeat (first | exact (Kd.C_below HR0.out (by repeat (first | (with_reducible first | exact HB.out | apply below_alloc | apply pw_below_drewN | apply below_drew1) | exact HB.out))) | (with_reducible refine Kd.C_alloc ?_ _) | (with_reducible refine Kd.C_drewN ?_ _) | (with_reducible refine Kd.C_drew ?_))); (case side4 => exact HC0.out); rintro e w' ⟨rfl, ⟨nd, rfl⟩⟩))
                    go_meet
                    case rel => exact ⟨_, (true), (by first | rfl | (simp; done) | (simp [*]; done)), H', ⟨by have := HJ3.out; first | omega | exact Nat.le_refl _⟩, ⟨by (with_reducible repeat (first | apply Kd.R_alloc | apply Kd.R_drewN | apply Kd.R_drew)); exact Kd.R_mono HO274.out (fun _ hk => trivial)⟩, ⟨by repeat (first | (with_reducible first | exact HB.out | apply below_alloc | apply pw_below_drewN | apply below_drew1) | exact HB.out)⟩⟩
                · replace c37 := Bool.eq_false_iff.mpr c37
                  subst c37
                  have H1 : (klaxonlaw09_LabelsJoined.j1 kj3 l0 t271 t272 true) = some r := by rw [if_neg (show ¬ (false = true) by decide)] at H; exact H
                  clear H
                  have H := H1
                  clear H1
                  have H' := Aside0.mk H
                  clear H
                  obtain ⟨Ao52, co52, eo52⟩ := Kd.R_slice HO274.out
                  subst eo52
                  obtain ⟨Ao53, co53, eo53⟩ := Kd.R_slice HO278.out
                  subst eo53
                  go_wp2_with (first | (go_at_call 15; (with_reducible refine (klaxonref09_Same.calls kj3 _ _ t271 _ _ t275 true _ ?side1 ?side2 ?side3 ?side4 A33.out).mono ?_); (case side1 => repeat (first | exact (Kd.R_reads' HO274.out).2.2 | (with_reducible refine Kd.C_alloc ?_ _) | (with_reducible refine Kd.C_drewN ?_ _) | (with_reducible refine Kd.C_drew ?_))); (case side2 => exact (Kd.R_reads' HO274.out).2.1); (case side3 => repeat (first | exact (Kd.R_reads' HO278.out).2.2 | (with_reducible refine Kd.C_alloc ?_ _) | (with_reducible refine Kd.C_drewN ?_ _) | (with_reducible refine Kd.C_drew ?_))); (case side4 => exact (Kd.R_reads' HO278.out).2.1); rintro e w' ⟨rfl, ⟨nd, rfl⟩⟩; obtain ⟨Ao54, co54, eo54⟩ := Kd.R_slice HO288.out; subst eo54) | (go_at_call 15; (with_reducible refine (klaxonref09_Same.calls kj3 _ _ t285 _ _ l0 false _ ?side1 ?side2 ?side3 ?side4 A36.out).mono ?_); (case side1 => repeat (first | exact (Kd.R_reads' HO288.out).2.2 | (with_reducible refine Kd.C_alloc ?_ _) | (with_reducible refine Kd.C_drewN ?_ _) | (with_reducible refine Kd.C_drew ?_))); (case side2 => exact (Kd.R_reads' HO288.out).2.1); (case side3 => repeat (first | exact (Kd.C_below HR0.out (by repeat (first | (with_reducible first | exact HB.out | apply below_alloc | apply pw_below_drewN | apply below_drew1) | exact HB.out))) | (with_reducible refine Kd.C_alloc ?_ _) | (with_reducible refine Kd.C_drewN ?_ _) | (with_reducible refine Kd.C_drew ?_))); (case side4 => exact HC0.out); rintro e w' ⟨rfl, ⟨nd, rfl⟩⟩))
                  go_meet
                  case rel => exact ⟨_, (true), (by first | rfl | (simp; done) | (simp [*]; done)), H', ⟨by have := HJ3.out; first | omega | exact Nat.le_refl _⟩, ⟨by (with_reducible repeat (first | apply Kd.R_alloc | apply Kd.R_drewN | apply Kd.R_drew)); exact Kd.R_mono HO274.out (fun _ hk => trivial)⟩, ⟨by repeat (first | (with_reducible first | exact HB.out | apply below_alloc | apply pw_below_drewN | apply below_drew1) | exact HB.out)⟩⟩
              · replace c35 := Bool.eq_false_iff.mpr c35
                subst c35
                have H1 : (klaxonlaw09_LabelsJoined.j1 kj3 l0 t271 t272 true) = some r := by rw [if_neg (show ¬ (false = true) by decide)] at H; exact H
                clear H
                have H := H1
                clear H1
                have H' := Aside0.mk H
                clear H
                obtain ⟨Ao55, co55, eo55⟩ := Kd.R_slice HO274.out
                subst eo55
                obtain ⟨Ao56, co56, eo56⟩ := Kd.R_slice HO278.out
                subst eo56
                go_wp2_with (first | (go_at_call 15; (with_reducible refine (klaxonref09_Same.calls kj3 _ _ t271 _ _ t275 true _ ?side1 ?side2 ?side3 ?side4 A33.out).mono ?_); (case side1 => repeat (first | exact (Kd.R_reads' HO274.out).2.2 | (with_reducible refine Kd.C_alloc ?_ _) | (with_reducible refine Kd.C_drewN ?_ _) | (with_reducible refine Kd.C_drew ?_))); (case side2 => exact (Kd.R_reads' HO274.out).2.1); (case side3 => repeat (first | exact (Kd.R_reads' HO278.out).2.2 | (with_reducible refine Kd.C_alloc ?_ _) | (with_reducible refine Kd.C_drewN ?_ _) | (with_reducible refine Kd.C_drew ?_))); (case side4 => exact (Kd.R_reads' HO278.out).2.1); rintro e w' ⟨rfl, ⟨nd, rfl⟩⟩))
                go_meet
                case rel => exact ⟨_, (true), (by first | rfl | (simp; done) | (simp [*]; done)), H', ⟨by have := HJ3.out; first | omega | exact Nat.le_refl _⟩, ⟨by (with_reducible repeat (first | apply Kd.R_alloc | apply Kd.R_drewN | apply Kd.R_drew)); exact Kd.R_mono HO274.out (fun _ hk => trivial)⟩, ⟨by repeat (first | (with_reducible first | exact HB.out | apply below_alloc | apply pw_below_drewN | apply below_drew1) | exact HB.out)⟩⟩
            · replace c34 := Bool.eq_false_iff.mpr c34
              subst c34
              have H1 : (klaxonlaw09_LabelsJoined.j1 kj3 l0 t271 t272 true) = some r := by rw [if_neg (show ¬ (false = true) by decide)] at H; exact H
              clear H
              have H := H1
              clear H1
              have H' := Aside0.mk H
              clear H
              obtain ⟨Ao57, co57, eo57⟩ := Kd.R_slice HO274.out
              subst eo57
              obtain ⟨Ao58, co58, eo58⟩ := Kd.R_slice HO278.out
              subst eo58
              go_wp2_with (first | (go_at_call 15; (with_reducible refine (klaxonref09_Same.calls kj3 _ _ t271 _ _ t275 false _ ?side1 ?side2 ?side3 ?side4 A33.out).mono ?_); (case side1 => repeat (first | exact (Kd.R_reads' HO274.out).2.2 | (with_reducible refine Kd.C_alloc ?_ _) | (with_reducible refine Kd.C_drewN ?_ _) | (with_reducible refine Kd.C_drew ?_))); (case side2 => exact (Kd.R_reads' HO274.out).2.1); (case side3 => repeat (first | exact (Kd.R_reads' HO278.out).2.2 | (with_reducible refine Kd.C_alloc ?_ _) | (with_reducible refine Kd.C_drewN ?_ _) | (with_reducible refine Kd.C_drew ?_))); (case side4 => exact (Kd.R_reads' HO278.out).2.1); rintro e w' ⟨rfl, ⟨nd, rfl⟩⟩))
              go_meet
              case rel => exact ⟨_, (true), (by first | rfl | (simp; done) | (simp [*]; done)), H', ⟨by have := HJ3.out; first | omega | exact Nat.le_refl _⟩, ⟨by (with_reducible repeat (first | apply Kd.R_alloc | apply Kd.R_drewN | apply Kd.R_drew)); exact Kd.R_mono HO274.out (fun _ hk => trivial)⟩, ⟨by repeat (first | (with_reducible first | exact HB.out | apply below_alloc | apply pw_below_drewN | apply below_drew1) | exact HB.out)⟩⟩
        case rest =>
          clear HC23
          try clear c1
          try clear c2
          try clear p2
          try clear c3
          try clear c4
          try clear c6
          try clear p6
          try clear c8
          try clear c11
          try clear c14
          try clear c17
          try clear c22
          try clear c23
          try clear c24
          try clear c32
          try clear c32b0
          try clear c32b1
          try clear c32b2
          try clear c34
          try clear c35
          try clear c37
          try clear c38
          try clear c40
          try clear p2
          obtain ⟨kq, x100_22, rfl, HA, HJ22, HO_7, HB⟩ := hcut
          cases kq with
          | zero => exact absurd HA.out (by simp [klaxonlaw09_LabelsJoined.j1])
          | succ kj22 =>
            have H := HA.out
            clear HA
            simp only [klaxonlaw09_LabelsJoined.j1] at H
            by_cases c59 : x100_22 = true
            · subst c59
              have H1 : (some false) = some r := by rw [if_pos rfl] at H; exact H
              clear H
              have H := H1
              clear H1
              exact absurd ((Option.some.inj H).trans HRT.out) (by decide)
            · replace c59 := Bool.eq_false_iff.mpr c59
              subst c59
              have H1 : (klaxonlaw09_LabelsJoined.l0 kj22 l0 t271 t272 0) = some r := by rw [if_neg (show ¬ (false = true) by decide)] at H; exact H
              clear H
              have H := H1
              clear H1
              have H' := Aside0.mk H
              clear H
              go_wp2
              go_loopg [17] kj22 (fun kq v17 w' => ∃ (x17_3 : Int), v17 = .int .i64 x17_3 ∧ Aside0 (klaxonlaw09_LabelsJoined.l0 kq l0 t271 t272 x17_3 = some r) ∧ Aside0 (kq ≤ kj22) ∧ Aside0 (Kd.R k47 47 w' w.heap.size (fun _ => True) v273 t271) ∧ Aside0 (Below w.heap.size w w'))
              case atStart => exact ⟨(0), (by first | rfl | (simp; done) | (simp [*]; done)), H', ⟨Nat.le_refl _⟩, ⟨by (with_reducible repeat (first | apply Kd.R_alloc | apply Kd.R_drewN | apply Kd.R_drew)); exact HO_7.out⟩, ⟨by repeat (first | (with_reducible first | exact HB.out | apply below_alloc | apply pw_below_drewN | apply below_drew1) | exact HB.out)⟩⟩
              case round =>
                clear H'
                try clear c1
                try clear c2
                try clear p2
                try clear c3
                try clear c4
                try clear c5
                try clear c6
                try clear p6
                try clear c8
                try clear c11
                try clear c14
                try clear c17
                try clear c22
                try clear c23
                try clear c24
                try clear c32
                try clear c32b0
                try clear c32b1
                try clear c32b2
                try clear c34
                try clear c35
                try clear c37
                try clear c38
                try clear c40
                try clear c59
                try clear p2
                try clear p6
                obtain ⟨x17_3, rfl, HA, HK3, HO_7, HB⟩ := hrel
                cases gk with
                | zero => exact absurd HA.out (by simp [klaxonlaw09_LabelsJoined.l0])
                | succ k3 =>
                  have H := HA.out
                  clear HA
                  simp only [klaxonlaw09_LabelsJoined.l0] at H
                  have HC60 := Aside0.mk H
                  clear H
                  go_upto_region 11 with (fail)
                  go_cut [107] (fun v107 wc => ∃ (kq : Nat) (x107_59 : Bool), v107 = .bool x107_59 ∧ Aside0 (klaxonlaw09_LabelsJoined.j3 kq l0 t271 t272 x17_3 x107_59 = some r) ∧ Aside0 (kq ≤ k3) ∧ Aside0 (Kd.R k47 47 wc w.heap.size (fun _ => True) v273 t271) ∧ Aside0 (Below w.heap.size w wc))
                  case first =>
                    have H := HC60.out
                    clear HC60
                    by_cases c61 : x17_3 < (l0.length : Int)
                    · rw [if_pos c61] at H
                      have c61b0 : decide (x17_3 < (l0.length : Int)) = true := decide_eq_true c61
                      clear c61
                      (first | rw [c61b0] | (simp only [i64_w, i32_w]; rw [c61b0]) | skip)
                      have H' := Aside0.mk H
                      clear H
                      go_wp2
                      go_meet
                      case rel => exact ⟨_, (t272), (by first | rfl | (simp; done) | (simp [*]; done)), H', ⟨by have := HJ3.out; have := HJ22.out; have := HK3.out; first | omega | exact Nat.le_refl _⟩, ⟨by (with_reducible repeat (first | apply Kd.R_alloc | apply Kd.R_drewN | apply Kd.R_drew)); exact HO_7.out⟩, ⟨by repeat (first | (with_reducible first | exact HB.out | apply below_alloc | apply pw_below_drewN | apply below_drew1) | exact HB.out)⟩⟩
                    · rw [if_neg c61] at H
                      have c61b0 : decide (x17_3 < (l0.length : Int)) = false := decide_eq_false c61
                      clear c61
                      (first | rw [c61b0] | (simp only [i64_w, i32_w]; rw [c61b0]) | skip)
                      have H' := Aside0.mk H
                      clear H
                      go_wp2
                      go_meet
                      case rel => exact ⟨_, (false), (by first | rfl | (simp; done) | (simp [*]; done)), H', ⟨by have := HJ3.out; have := HJ22.out; have := HK3.out; first | omega | exact Nat.le_refl _⟩, ⟨by (with_reducible repeat (first | apply Kd.R_alloc | apply Kd.R_drewN | apply Kd.R_drew)); exact HO_7.out⟩, ⟨by repeat (first | (with_reducible first | exact HB.out | apply below_alloc | apply pw_below_drewN | apply below_drew1) | exact HB.out)⟩⟩
                  case rest =>
                    clear HC60
                    try clear c1
                    try clear c2
                    try clear p2
                    try clear c3
                    try clear c4
                    try clear c5
                    try clear c6
                    try clear p6
                    try clear c8
                    try clear c11
                    try clear c14
                    try clear c17
                    try clear c22
                    try clear c23
                    try clear c24
                    try clear c32
                    try clear c32b0
                    try clear c32b1
                    try clear c32b2
                    try clear c34
                    try clear c35
                    try clear c37
                    try clear c38
                    try clear c40
                    try clear c59
                    try clear c61
                    try clear c61b0
                    try clear p2
                    try clear p6
                    obtain ⟨kq, x107_59, rfl, HA, HJ59, HO_7, HB⟩ := hcut
                    cases kq with
                    | zero => exact absurd HA.out (by simp [klaxonlaw09_LabelsJoined.j3])
                    | succ kj59 =>
                      have H := HA.out
                      clear HA
                      simp only [klaxonlaw09_LabelsJoined.j3] at H
                      by_cases c62 : x107_59 = true
                      · subst c62
                        have H1 : (if 0 ≤ x17_3 then (if x17_3 < (l0.length : Int) then ((labels_Get.f t271 ((rd_T47 l0 x17_3).f0)).bind fun t297 => (if t297.toList = ((rd_T47 l0 x17_3).f1).toList then (klaxonlaw09_LabelsJoined.l0 kj59 l0 t271 t272 (wrap64 (x17_3 + 1))) else (some false))) else (none)) else (none)) = some r := by rw [if_pos rfl] at H; exact H
                        clear H
                        have H := H1
                        clear H1
                        by_cases c63 : 0 ≤ x17_3
                        · rw [if_pos c63] at H
                          have c63b0 : decide (0 ≤ x17_3) = true := decide_eq_true c63
                          clear c63
                          by_cases c64 : x17_3 < (l0.length : Int)
                          · rw [if_pos c64] at H
                            have c64b0 : decide (x17_3 < (l0.length : Int)) = true := decide_eq_true c64
                            clear c64
                            replace H := Option.bind_eq_some_iff.mp H
                            obtain ⟨t297, A650, H⟩ := H
                            replace H : (if t297.toList = ((rd_T47 l0 x17_3).f1).toList then (klaxonlaw09_LabelsJoined.l0 kj59 l0 t271 t272 (wrap64 (x17_3 + 1))) else (some false)) = some r := H
                            have A65 := Aside0.mk A650
                            clear A650
                            by_cases c66 : t297.toList = ((rd_T47 l0 x17_3).f1).toList
                            · rw [if_pos c66] at H
                              have c66b0 : (t297.toList == ((rd_T47 l0 x17_3).f1).toList) = true := beq_iff_eq.mpr c66
                              have c66b1 : (t297.toList != ((rd_T47 l0 x17_3).f1).toList) = false := bne_eq_false_iff_eq.mpr c66
                              clear c66
                              have H' := Aside0.mk H
                              clear H
                              try go_wp2
                              have n0_ := Aside0.mk (Kd.R_drew HO_7.out)
                              have n1_ := Aside0.mk (below_drew1 HB.out)
                              clear HO_7
                              clear HB
                              have HO_7 := n0_
                              have HB := n1_
                              clear n0_ n1_
                              have p296 : 0 ≤ (x17_3 : Int) := of_decide_eq_true (by first | (with_reducible assumption) | assumption)
                              have q296 : x17_3 < (l0.length : Int) := of_decide_eq_true (by first | (with_reducible assumption) | assumption)
                              obtain ⟨ad296, e296, hx296_0, hx296_1⟩ := at_T47 HR0.out x17_3 p296 q296
                              have hw296_1 := hx296_1
                              have hw296_0 := hx296_0
                              cases e296
                              replace hx296_0 := (HB.out.cell (World.block_lt_of_cell? w _ hx296_0)).trans hx296_0
                              replace hx296_1 := (HB.out.cell (World.block_lt_of_cell? w _ hx296_1)).trans hx296_1
                              replace p296 := eq_true p296
                              replace q296 := eq_true q296
                              have p298 : 0 ≤ (x17_3 : Int) := of_decide_eq_true (by first | (with_reducible assumption) | assumption)
                              have q298 : x17_3 < (l0.length : Int) := of_decide_eq_true (by first | (with_reducible assumption) | assumption)
                              obtain ⟨ad298, e298, hx298_0, hx298_1⟩ := at_T47 HR0.out x17_3 p298 q298
                              have hw298_1 := hx298_1
                              have hw298_0 := hx298_0
                              obtain rfl : ad296 = ad298 := (by injection e298)
                              replace hx298_0 := (HB.out.cell (World.block_lt_of_cell? w _ hx298_0)).trans hx298_0
                              replace hx298_1 := (HB.out.cell (World.block_lt_of_cell? w _ hx298_1)).trans hx298_1
                              replace p298 := eq_true p298
                              replace q298 := eq_true q298
                              obtain ⟨Ao68, co68, eo68⟩ := Kd.R_slice HO_7.out
                              (first | subst eo68 | (injection eo68 with f1_ f2_ f3_; have f4_ := f1_.symm; have f5_ := f3_.symm; clear f1_ f2_ f3_; subst f4_; subst f5_))
                              refine start_ (n := 13) (S := fun w' => w'.cell? (ad296.add ((x17_3).toNat * 2)) = some (.string ((rd_T47 l0 x17_3).f0)) ∧ w'.cell? ⟨(ad296.add ((x17_3).toNat * 2)).block, (ad296.add ((x17_3).toNat * 2)).off + 1, none⟩ = some (.string ((rd_T47 l0 x17_3).f1)) ∧ w'.cell? (ad296.add ((x17_3).toNat * 2)) = some (.string ((rd_T47 l0 x17_3).f0)) ∧ w'.cell? ⟨(ad296.add ((x17_3).toNat * 2)).block, (ad296.add ((x17_3).toNat * 2)).off + 1, none⟩ = some (.string ((rd_T47 l0 x17_3).f1))) (ds := []) #[false, false, false, false, false, false, false, false, false, false, false, false, false] (by kernel_rfl) rfl rfl ⟨((HB.out.cell (World.block_lt_of_cell? w _ hw296_0)).trans hw296_0), ((HB.out.cell (World.block_lt_of_cell? w _ hw296_1)).trans hw296_1), ((HB.out.cell (World.block_lt_of_cell? w _ hw298_0)).trans hw298_0), ((HB.out.cell (World.block_lt_of_cell? w _ hw298_1)).trans hw298_1)⟩ (fun hHeld => ?_); refine with_tabW klaxonlaw09_LabelsJoined.tab13 klaxonlaw09_LabelsJoined.bits13 (fun HT_ HW_ => ?_)
                              generalize wc.drew = w67 at HO_7 HB hx296_0 hx296_1 hx298_0 hx298_1 hHeld ⊢
                              refine pure_ (i := 0) (N := some 110) (v := ?_) (a' := ?_) #[true, false, false, false, false, false, false, false, false, false, false, false, false] rfl rfl (any_of HT_.out (by kernel_rfl)) (fun _ _ _ h => h) (Or.inl ⟨by rfl, ?_⟩) ?_ ?_
                              rotate_left
                              · intro w'
                                go_simp
                                with_reducible rfl
                              rotate_left
                              · simp only [Act.put, List.setIfInBounds_toArray, List.set_cons_zero, List.set_cons_succ, i64_w, i32_w]
                                rfl
                              refine pure_ (i := 1) (N := some 111) (v := ?_) (a' := ?_) #[true, true, false, false, false, false, false, false, false, false, false, false, false] rfl rfl (any_of HT_.out (by kernel_rfl)) (fun _ _ _ h => h) (Or.inl ⟨by rfl, ?_⟩) ?_ ?_
                              rotate_left
                              · intro w'
                                go_simp
                                with_reducible rfl
                              rotate_left
                              · simp only [Act.put, List.setIfInBounds_toArray, List.set_cons_zero, List.set_cons_succ, i64_w, i32_w]
                                rfl
                              refine pure_ (i := 2) (N := some 112) (v := ?_) (a' := ?_) #[true, true, true, false, false, false, false, false, false, false, false, false, false] rfl rfl (any_of HT_.out (by kernel_rfl)) (fun _ _ _ h => h) (Or.inl ⟨by rfl, ?_⟩) ?_ ?_
                              rotate_left
                              · intro w'
                                go_simp
                                with_reducible rfl
                              rotate_left
                              · simp only [Act.put, List.setIfInBounds_toArray, List.set_cons_zero, List.set_cons_succ, i64_w, i32_w]
                                rfl
                              refine pure_ (i := 3) (N := some 113) (v := ?_) (a' := ?_) #[true, true, true, true, false, false, false, false, false, false, false, false, false] rfl rfl (any_of HT_.out (by kernel_rfl)) (fun _ _ _ h => h) (Or.inl ⟨by rfl, ?_⟩) ?_ ?_
                              rotate_left
                              · intro w'
                                go_simp
                                with_reducible rfl
                              rotate_left
                              · simp only [Act.put, List.setIfInBounds_toArray, List.set_cons_zero, List.set_cons_succ, i64_w, i32_w]
                                rfl
                              refine pure_ (i := 4) (N := some 114) (v := ?_) (a' := ?_) #[true, true, true, true, true, false, false, false, false, false, false, false, false] rfl rfl (any_of HT_.out (by kernel_rfl)) (fun _ _ _ h => h) (Or.inl ⟨by rfl, ?_⟩) ?_ ?_
                              rotate_left
                              · intro w'
                                go_simp
                                with_reducible rfl
                              rotate_left
                              · simp only [Act.put, List.setIfInBounds_toArray, List.set_cons_zero, List.set_cons_succ, i64_w, i32_w]
                                rfl
                              refine pure_ (i := 7) (N := some 117) (v := ?_) (a' := ?_) #[true, true, true, true, true, false, false, true, false, false, false, false, false] rfl rfl (any_of HT_.out (by kernel_rfl)) (fun _ _ _ h => h) (Or.inl ⟨by rfl, ?_⟩) ?_ ?_
                              rotate_left
                              · intro w'
                                go_simp
                                with_reducible rfl
                              rotate_left
                              · simp only [Act.put, List.setIfInBounds_toArray, List.set_cons_zero, List.set_cons_succ, i64_w, i32_w]
                                rfl
                              refine pure_ (i := 8) (N := some 118) (v := ?_) (a' := ?_) #[true, true, true, true, true, false, false, true, true, false, false, false, false] rfl rfl (any_of HT_.out (by kernel_rfl)) (fun _ _ _ h => h) (Or.inl ⟨by rfl, ?_⟩) ?_ ?_
                              rotate_left
                              · intro w'
                                go_simp
                                with_reducible rfl
                              rotate_left
                              · simp only [Act.put, List.setIfInBounds_toArray, List.set_cons_zero, List.set_cons_succ, i64_w, i32_w]
                                rfl
                              refine pure_ (i := 9) (N := some 119) (v := ?_) (a' := ?_) #[true, true, true, true, true, false, false, true, true, true, false, false, false] rfl rfl (any_of HT_.out (by kernel_rfl)) (fun _ _ _ h => h) (Or.inl ⟨by rfl, ?_⟩) ?_ ?_
                              rotate_left
                              · intro w'
                                go_simp
                                with_reducible rfl
                              rotate_left
                              · simp only [Act.put, List.setIfInBounds_toArray, List.set_cons_zero, List.set_cons_succ, i64_w, i32_w]
                                rfl
                              refine pure_ (i := 10) (N := some 120) (v := ?_) (a' := ?_) #[true, true, true, true, true, false, false, true, true, true, true, false, false] rfl rfl (any_of HT_.out (by kernel_rfl)) (fun _ _ _ h => h) (Or.inl ⟨by rfl, ?_⟩) ?_ ?_
                              rotate_left
                              · intro w'
                                go_simp
                                with_reducible rfl
                              rotate_left
                              · simp only [Act.put, List.setIfInBounds_toArray, List.set_cons_zero, List.set_cons_succ, i64_w, i32_w]
                                rfl
                              refine take_ (i := 5) (N := some 115) (v := ?_) (a' := ?_) #[true, true, true, true, true, true, false, true, true, true, true, false, false] rfl rfl (take_ofW HT_.out HW_.out (by kernel_rfl)) (fun _ _ _ h => h) (Or.inl ⟨by rfl, ?_⟩) hHeld ?_ ?_
                              rotate_left
                              · rintro w' ⟨s0, s1, s2, s3⟩
                                go_simp
                                with_reducible rfl
                              rotate_left
                              · simp only [Act.put, List.setIfInBounds_toArray, List.set_cons_zero, List.set_cons_succ, i64_w, i32_w]
                                rfl
                              refine take_ (i := 11) (N := some 121) (v := ?_) (a' := ?_) #[true, true, true, true, true, true, false, true, true, true, true, true, false] rfl rfl (take_ofW HT_.out HW_.out (by kernel_rfl)) (fun _ _ _ h => h) (Or.inl ⟨by rfl, ?_⟩) hHeld ?_ ?_
                              rotate_left
                              · rintro w' ⟨s0, s1, s2, s3⟩
                                go_simp
                                with_reducible rfl
                              rotate_left
                              · simp only [Act.put, List.setIfInBounds_toArray, List.set_cons_zero, List.set_cons_succ, i64_w, i32_w]
                                rfl
                              refine one_ (i := 6) (N := some 116) #[true, true, true, true, true, true, true, true, true, true, true, true, false] rfl rfl (one_of HT_.out (by kernel_rfl)) (by decide) (fun K hK => ?_)
                              refine goes_ Tryz.func25 (by kernel_rfl) rfl #[.slice Ao68 t271.length co68, .string ((rd_T47 l0 x17_3).f0)] (by rfl) rfl rfl (by (try simp only [List.map_toArray, List.map_cons, List.map_nil]); first | done | rfl | (simp only [List.length_drop, List.length_take]; rfl)) ?_
                              with_reducible refine (labels_Get.calls _ _ t271 ((rd_T47 l0 x17_3).f0) t297 _ ?side1 ?side2 A65.out).mono ?_
                              (case side1 => repeat (first | exact (Kd.R_reads' HO_7.out).2.2 | (with_reducible refine Kd.C_alloc ?_ _) | (with_reducible refine Kd.C_drewN ?_ _) | (with_reducible refine Kd.C_drew ?_)))
                              (case side2 => exact (Kd.R_reads' HO_7.out).2.1)
                              rintro e w69 ⟨rfl, hb⟩
                              refine ⟨_, rfl, ?_⟩
                              have n0_ := Aside0.mk (Kd.R_below (by (with_reducible repeat (first | apply Kd.R_alloc | apply Kd.R_drewN | apply Kd.R_drew)); exact HO_7.out) hb)
                              have n1_ := Aside0.mk (below_step (by repeat (first | (with_reducible first | exact HB.out | apply below_alloc | apply pw_below_drewN | apply below_drew1) | exact HB.out)) hb)
                              clear HO_7
                              clear HB
                              have HO_7 := n0_
                              have HB := n1_
                              clear n0_ n1_
                              (try clear hb)
                              (try clear hb2)
                              (try clear hk)
                              (try clear hi)
                              refine hK.out _ _ ⟨((HB.out.cell (World.block_lt_of_cell? w _ hw296_0)).trans hw296_0), ((HB.out.cell (World.block_lt_of_cell? w _ hw296_1)).trans hw296_1), ((HB.out.cell (World.block_lt_of_cell? w _ hw298_0)).trans hw298_0), ((HB.out.cell (World.block_lt_of_cell? w _ hw298_1)).trans hw298_1)⟩ (fun hHeld => ?_)
                              clear hK K
                              refine norm_ (a' := ?_) ?_ ?_
                              rotate_left
                              · show Act.put _ (some 116) _ = _
                                simp only [Act.put, List.setIfInBounds_toArray, List.set_cons_zero, List.set_cons_succ, i64_w, i32_w]
                                rfl
                              refine pure_ (i := 12) (N := some 122) (v := ?_) (a' := ?_) #[true, true, true, true, true, true, true, true, true, true, true, true, true] rfl rfl (any_of HT_.out (by kernel_rfl)) (fun _ _ _ h => h) (Or.inl ⟨by rfl, ?_⟩) ?_ ?_
                              rotate_left
                              · intro w'
                                go_simp
                                with_reducible rfl
                              rotate_left
                              · simp only [Act.put, List.setIfInBounds_toArray, List.set_cons_zero, List.set_cons_succ, i64_w, i32_w]
                                rfl
                              refine done_ (done_of HT_.out (by kernel_rfl)) ?_
                              try go_wp2
                              go_roundg kj59
                              case measure => have := HJ3.out; have := HJ22.out; have := HK3.out; have := HJ59.out; omega
                              case rel => exact ⟨(wrap64 (x17_3 + 1)), (by first | rfl | (simp; done) | (simp [*]; done)), H', ⟨by have := HJ3.out; have := HJ22.out; have := HK3.out; have := HJ59.out; omega⟩, ⟨by (with_reducible repeat (first | apply Kd.R_alloc | apply Kd.R_drewN | apply Kd.R_drew)); exact HO_7.out⟩, ⟨by repeat (first | (with_reducible first | exact HB.out | apply below_alloc | apply pw_below_drewN | apply below_drew1) | exact HB.out)⟩⟩
                            · rw [if_neg c66] at H
                              have c66b0 : (t297.toList == ((rd_T47 l0 x17_3).f1).toList) = false := beq_eq_false_iff_ne.mpr c66
                              have c66b1 : (t297.toList != ((rd_T47 l0 x17_3).f1).toList) = true := bne_iff_ne.mpr c66
                              exact absurd ((Option.some.inj H).trans HRT.out) (by decide)
                          · rw [if_neg c64] at H
                            exact absurd H (by simp)
                        · rw [if_neg c63] at H
                          exact absurd H (by simp)
                      · replace c62 := Bool.eq_false_iff.mpr c62
                        subst c62
                        have H1 : ((klaxonlaw09_live.f kj59).bind fun t299 => (some t299)) = some r := by rw [if_neg (show ¬ (false = true) by decide)] at H; exact H
                        clear H
                        have H := H1
                        clear H1
                        replace H := Option.bind_eq_some_iff.mp H
                        obtain ⟨t299, A730, H⟩ := H
                        replace H : (some t299) = some r := H
                        have A73 := Aside0.mk A730
                        clear A730
                        obtain rfl := Option.some.inj H
                        go_wp2_with (first | ((with_reducible refine gate_callee (f := 11) rfl ?_); refine goesL_ (some 123) rfl rfl Tryz.func11 (by kernel_rfl) rfl #[] rfl (by (try simp only [List.map_toArray, List.map_cons, List.map_nil]); first | done | rfl | (simp only [List.length_drop, List.length_take]; rfl)) ?_; (with_reducible refine (klaxonlaw09_live.calls kj59  t299 _ A73.out).mono ?_); rintro e w74 ⟨rfl, hb⟩; refine ⟨_, rfl, ?_⟩; have n0_ := Aside0.mk (Kd.R_below (by (with_reducible repeat (first | apply Kd.R_alloc | apply Kd.R_drewN | apply Kd.R_drew)); exact HO_7.out) hb); have n1_ := Aside0.mk (below_step (by repeat (first | (with_reducible first | exact HB.out | apply below_alloc | apply pw_below_drewN | apply below_drew1) | exact HB.out)) hb); clear HO_7; clear HB; have HO_7 := n0_; have HB := n1_; clear n0_ n1_; (try clear hb); (try clear hb2); (try clear hk); (try clear hi)))
                        go_ret
                        exact ⟨by first | rfl | (simp [errW_none, errW_some] <;> rfl) | (simp [*, errW_none, errW_some] <;> rfl), by repeat (first | (with_reducible first | exact HB.out | apply below_alloc | apply pw_below_drewN | apply below_drew1) | exact HB.out)⟩

end Go.Proofs.YtmhilolgjcfhjaaGreat.X

/- LabelsJoined in plain Lean: Join in any order; with a part of itself; Only and Without part a set. -/
namespace Go.Proofs.YtmhilolgjcfhjaaGreat.Pure
open Go.RowKit Go.Proofs.YtmhilolgjcfhjaaGreat.X Go.Proofs.YtmhilolgjcfhjaaGreatW.PrintWords Go.Proofs.YtmhilolgjcfhjaaGreatW.PrintLast Go.Proofs.YtmhilolgjcfhjaaGreatW.PrintMore

theorem joined_fits {l : List S47} (h : InL l) : fits47 l := ⟨by have := h.1; omega, fun x hx => by have := (h.2 x hx).1; unfold InS at this; omega⟩
theorem joined_live (a x : List S47) (ok : Bool) (i : Int) : Ev (fun k => klaxonlaw09_LabelsJoined.j3 k a x ok i false) true :=
  Ev.step (fun k => by rw [klaxonlaw09_LabelsJoined.j3]) (Ev.ifn (by decide) (Ev.bind live_ev (Ev.now _)))
theorem joined_l0 (a x : List S47) (ok : Bool) (ha : a.length ≤ 16) (hx : x.length ≤ 16) (h : ok = true → ∀ y ∈ a, getB x y.f0 = y.f1) : ∀ d i : Nat, i + d = a.length → Ev (fun k => klaxonlaw09_LabelsJoined.l0 k a x ok i) true
  | 0, i, hi => Ev.step (fun k => by rw [klaxonlaw09_LabelsJoined.l0]) (Ev.ifn (by omega) (joined_live a x ok i))
  | d + 1, i, hi => by
    refine Ev.step (fun k => by rw [klaxonlaw09_LabelsJoined.l0]) (Ev.ifp (by omega) ?_)
    cases hok : ok with
    | false => exact joined_live a x false i
    | true =>
      have ih := joined_l0 a x ok ha hx h d (i + 1) (by omega)
      rw [hok] at ih
      refine Ev.step (fun k => by rw [klaxonlaw09_LabelsJoined.j3]) (Ev.ifp rfl (Ev.ifp (by omega) (Ev.ifp (by omega) ?_)))
      rw [get_f (by omega)]
      refine Ev.bind (Ev.now _) (Ev.ifp ?_ ?_)
      · rw [rd47_at a i (by omega), h hok _ (List.getElem_mem _)]
      · rw [wrap_up i (by omega)]; exact ih
theorem joined_j0 (a b : List S47) (names : List ByteArray) (t : Bool) (h : t = false → IsSet a ∧ IsSet b ∧ names.length ≤ 60) : Ev (fun k => klaxonlaw09_LabelsJoined.j0 k a b names t) true := by
  refine Ev.step (fun k => by rw [klaxonlaw09_LabelsJoined.j0]) ?_
  cases t with
  | true => exact Ev.ifp rfl (Ev.bind live_ev (Ev.now _))
  | false =>
    obtain ⟨ha, hb, hn⟩ := h rfl
    have la := ha.few
    have lb := hb.few
    have ho : labels_Only.f a names = some (onlyB a names) := by unfold labels_Only.f; rw [if_pos ⟨by omega, by omega⟩]
    have hw : labels_Without.f a names = some (withoutB a names) := by unfold labels_Without.f; rw [if_pos ⟨by omega, by omega⟩]
    have so : IsSet (onlyB a names) := filter_set ha _
    have sw : IsSet (withoutB a names) := filter_set ha _
    have lo := so.few
    have lw := sw.few
    have hlen := (part_perm a names).length_eq
    rw [List.length_append] at hlen
    have lj := join_len a b ha
    refine Ev.ifn (by decide) (Ev.bind (join_ev a b (by omega) (by omega) ha.names hb.names) (Ev.bind (join_ev b a (by omega) (by omega) hb.names ha.names) ?_))
    rw [ho, hw, join_comm hb ha]
    refine Ev.bind (Ev.now _) (Ev.bind (Ev.now _) (Ev.bind (join_ev _ _ (by omega) (by omega) sw.names so.names) (Ev.bind (join_ev _ _ (by omega) (by omega) ha.names so.names) ?_)))
    rw [join_split ha names, join_part ha (fun x hx => ((only_mem a names x).1 hx).1)]
    have hs := same_ev (joinB a b).1 (joinB a b).1 (by omega)
    rw [decide_eq_true rfl] at hs
    have hs2 := same_ev a a (by omega)
    rw [decide_eq_true rfl] at hs2
    refine Ev.ifn (by simp) (Ev.bind hs (Ev.ifp rfl (Ev.ifp rfl (Ev.bind hs2 (Ev.ifp rfl (Ev.ifp rfl (Ev.bind hs2 (Ev.ifp rfl ?_))))))))
    rw [show (wrap64 (((onlyB a names).length : Int) + ((withoutB a names).length : Int)) != (a.length : Int)) = false by
      rw [show wrap64 (((onlyB a names).length : Int) + ((withoutB a names).length : Int)) = (a.length : Int) by unfold wrap64; omega]; simp]
    refine Ev.step (fun k => by rw [klaxonlaw09_LabelsJoined.j1]) (Ev.ifn (by decide) ?_)
    exact joined_l0 a _ _ la lj (fun hok y hy => join_has ha hb hok hy) a.length 0 (by omega)
theorem LabelsJoined (a b : List S47) (names : List ByteArray) (h0 : InL a) (h1 : InL b) (h2 : InN names) : ∃ k, klaxonlaw09_LabelsJoined.f k a b names = some true := by
  refine Ev.rounds (g := fun k => klaxonlaw09_LabelsJoined.f k a b names) ?_
  unfold klaxonlaw09_LabelsJoined.f
  rw [set_f (joined_fits h0), set_f (joined_fits h1)]
  refine Ev.bind (Ev.now _) ?_
  by_cases ca : setB a = true
  · refine Ev.ifp ca (Ev.bind (Ev.now _) ?_)
    by_cases cb : setB b = true
    · exact Ev.ifp cb (joined_j0 a b names _ (fun hn => ⟨(set_iff a).1 ca, (set_iff b).1 cb, by have := of_decide_eq_false hn; omega⟩))
    · exact Ev.ifn cb (joined_j0 a b names true (fun q => by cases q))
  · exact Ev.ifn ca (joined_j0 a b names true (fun q => by cases q))
end Go.Proofs.YtmhilolgjcfhjaaGreat.Pure
