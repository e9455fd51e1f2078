/- The document's Get and Match: what they answer in plain Lean. -/
import Derived.Test.YtmhilolgjcfhjaaGreatPA
import Derived.Test.YtmhilolgjcfhjaaGreatPH
set_option linter.unusedVariables false
set_option linter.unusedSimpArgs false

namespace Go.Proofs.YtmhilolgjcfhjaaGreat.X
open Go.RowKit Go.Proofs.YtmhilolgjcfhjaaGreatW.PrintWords Go.Proofs.YtmhilolgjcfhjaaGreatW.PrintLast Go.Proofs.YtmhilolgjcfhjaaGreatW.PrintMore
attribute [local go_sem] max2_int min2_int max_two min_two max_three min_three max_four min_four   -- for this text's walks alone
set_option linter.unusedVariables false
set_option linter.unusedSimpArgs false

/-! ### klaxonref09_Get: function 31 -/
def klaxonref09_Get.l0 : Nat → List (S47) → ByteArray → Int → Option (ByteArray)
  | 0, _, _, _ => none
  | k + 1, x0, x1, x5 => if x5 < (x0.length : Int) then (if 0 ≤ x5 then (if ((rd_T47 x0 x5).f0).toList = x1.toList then (some ((rd_T47 x0 x5).f1)) else (klaxonref09_Get.l0 k x0 x1 (wrap64 (x5 + 1)))) else (none)) else (some (⟨#[]⟩ : ByteArray))
def klaxonref09_Get.f (k : Nat) (l0 : List (S47)) (a1 : ByteArray) : Option (ByteArray) := klaxonref09_Get.l0 k l0 a1 0
theorem klaxonref09_Get.mono_l : ∀ k, (∀ y0 y1 y2, LeO (klaxonref09_Get.l0 k y0 y1 y2) (klaxonref09_Get.l0 (k + 1) y0 y1 y2))
  | 0 => fun _ _ _ r h => by simp [klaxonref09_Get.l0] at h
  | k + 1 => by
    have ih0 := klaxonref09_Get.mono_l k
    · intro y0 y1 y2
      unfold klaxonref09_Get.l0
      repeat' first
      | (with_reducible exact ih0 _ _ _)
      | (with_reducible exact LeO.refl _)
      | (with_reducible exact LeO.none _)
      | (with_reducible refine LeO.ite ?_ ?_)
      | (with_reducible refine LeO.bind ?_ (fun _ => ?_))
      | exact ih0 _ _ _
      | exact LeO.none _
      | refine LeO.ite ?_ ?_
      | refine LeO.bind ?_ (fun _ => ?_)
theorem klaxonref09_Get.mono : ∀ a0 a1 k, LeO (klaxonref09_Get.f k a0 a1) (klaxonref09_Get.f (k + 1) a0 a1) := by
  intro a0 a1 k
  have ih0 := klaxonref09_Get.mono_l k
  unfold klaxonref09_Get.f
  repeat' first
      | (with_reducible exact ih0 _ _ _)
      | (with_reducible exact LeO.refl _)
      | (with_reducible exact LeO.none _)
      | (with_reducible refine LeO.ite ?_ ?_)
      | (with_reducible refine LeO.bind ?_ (fun _ => ?_))
      | exact ih0 _ _ _
      | exact LeO.none _
      | refine LeO.ite ?_ ?_
      | refine LeO.bind ?_ (fun _ => ?_)
set_option maxHeartbeats 8000000 in
set_option maxRecDepth 100000 in
theorem klaxonref09_Get.calls (k : Nat) (A0 : Option Addr) (c0 : Nat) (l0 : List (S47)) (a1 : ByteArray) (r : ByteArray) (w : World) (hr0 : Kd.C k47 w A0 l0.length l0) (hc0 : l0.length ≤ c0) (h : klaxonref09_Get.f k l0 a1 = some r) :
    Calls Tryz.prog 31 #[.slice A0 l0.length c0, .string a1] w fun e w' => e = .returned (.string r) ∧ Drawn0 w w' := by
  have HR0 := Aside0.mk hr0
  have HC0 := Aside0.mk hc0
  clear hr0 hc0
  have H : (klaxonref09_Get.l0 k l0 a1 0) = some r := h
  clear h
  have H' := Aside0.mk H
  clear H
  go_enter Tryz.func31, Tryz.ntmps31
  go_wp2
  go_loopg [5] k (fun kq v5 w' => ∃ (x5_1 : Int), v5 = .int .i64 x5_1 ∧ Aside0 (klaxonref09_Get.l0 kq l0 a1 x5_1 = some r) ∧ Aside0 (kq ≤ k) ∧ Drawn0 w w')
  case atStart => exact ⟨(0), (by first | rfl | (simp; done) | (simp [*]; done)), H', ⟨Nat.le_refl _⟩, by repeat (first | exact Drawn0.refl _ | apply Drawn0.step)⟩
  case round =>
    clear H'
    try clear p2
    obtain ⟨x5_1, rfl, HA, HK1, ⟨m1, rfl⟩⟩ := hrel
    cases gk with
    | zero => exact absurd HA.out (by simp [klaxonref09_Get.l0])
    | succ k1 =>
      have H := HA.out
      clear HA
      simp only [klaxonref09_Get.l0] at H
      by_cases c3 : x5_1 < (l0.length : Int)
      · rw [if_pos c3] at H
        have c3b0 : decide (x5_1 < (l0.length : Int)) = true := decide_eq_true c3
        clear c3
        by_cases c4 : 0 ≤ x5_1
        · rw [if_pos c4] at H
          have c4b0 : decide (0 ≤ x5_1) = true := decide_eq_true c4
          clear c4
          by_cases c5 : ((rd_T47 l0 x5_1).f0).toList = a1.toList
          · rw [if_pos c5] at H
            have c5b0 : (((rd_T47 l0 x5_1).f0).toList == a1.toList) = true := beq_iff_eq.mpr c5
            have c5b1 : (((rd_T47 l0 x5_1).f0).toList != a1.toList) = false := bne_eq_false_iff_eq.mpr c5
            clear c5
            obtain rfl := Option.some.inj H
            have p412 : 0 ≤ (x5_1 : Int) := of_decide_eq_true (by first | (with_reducible assumption) | assumption)
            have q412 : x5_1 < (l0.length : Int) := of_decide_eq_true (by first | (with_reducible assumption) | assumption)
            obtain ⟨ad412, e412, hx412_0, hx412_1⟩ := at_T47 HR0.out x5_1 p412 q412
            cases e412
            replace p412 := eq_true p412
            replace q412 := eq_true q412
            have p413 : 0 ≤ (x5_1 : Int) := of_decide_eq_true (by first | (with_reducible assumption) | assumption)
            have q413 : x5_1 < (l0.length : Int) := of_decide_eq_true (by first | (with_reducible assumption) | assumption)
            obtain ⟨ad413, e413, hx413_0, hx413_1⟩ := at_T47 HR0.out x5_1 p413 q413
            obtain rfl : ad412 = ad413 := (by injection e413)
            replace p413 := eq_true p413
            replace q413 := eq_true q413
            go_wp2
            go_ret
            exact ⟨by first | rfl | (simp; done) | (simp [*]; done), by repeat (first | exact Drawn0.refl _ | apply Drawn0.step)⟩
          · rw [if_neg c5] at H
            have c5b0 : (((rd_T47 l0 x5_1).f0).toList == a1.toList) = false := beq_eq_false_iff_ne.mpr c5
            have c5b1 : (((rd_T47 l0 x5_1).f0).toList != a1.toList) = true := bne_iff_ne.mpr c5
            have H' := Aside0.mk H
            clear H
            have p412 : 0 ≤ (x5_1 : Int) := of_decide_eq_true (by first | (with_reducible assumption) | assumption)
            have q412 : x5_1 < (l0.length : Int) := of_decide_eq_true (by first | (with_reducible assumption) | assumption)
            obtain ⟨ad412, e412, hx412_0, hx412_1⟩ := at_T47 HR0.out x5_1 p412 q412
            cases e412
            replace p412 := eq_true p412
            replace q412 := eq_true q412
            go_wp2
            go_roundg k1
            case measure => have := HK1.out; omega
            case rel => exact ⟨(wrap64 (x5_1 + 1)), (by first | rfl | (simp; done) | (simp [*]; done)), H', ⟨by have := HK1.out; omega⟩, by repeat (first | exact Drawn0.refl _ | apply Drawn0.step)⟩
        · rw [if_neg c4] at H
          exact absurd H (by simp)
      · rw [if_neg c3] at H
        have c3b0 : decide (x5_1 < (l0.length : Int)) = false := decide_eq_false c3
        clear c3
        obtain rfl := Option.some.inj H
        go_wp2
        go_ret
        exact ⟨by first | rfl | (simp; done) | (simp [*]; done), by repeat (first | exact Drawn0.refl _ | apply Drawn0.step)⟩

end Go.Proofs.YtmhilolgjcfhjaaGreat.X

/- The document's Match is the same plain test. -/
namespace Go.Proofs.YtmhilolgjcfhjaaGreat.X
open Go.RowKit Go.Proofs.YtmhilolgjcfhjaaGreatW.PrintWords Go.Proofs.YtmhilolgjcfhjaaGreatW.PrintLast Go.Proofs.YtmhilolgjcfhjaaGreatW.PrintMore
attribute [local go_sem] max2_int min2_int max_two min_two max_three min_three max_four min_four

theorem beq_toList (a b : ByteArray) : (a.toList = b.toList) ↔ (a.toList == b.toList) = true := by simp
theorem getB_at (l : List S47) (name : ByteArray) (hl : l.length ≤ 4611686018427387904) : ∀ d i : Nat, i + d = l.length → Ev (fun k => klaxonref09_Get.l0 k l name i) (getB (l.drop i) name)
  | 0, i, h => by
    refine Ev.step (fun k => by rw [klaxonref09_Get.l0]) ?_
    refine Ev.ifn (by omega) ?_
    rw [List.drop_eq_nil_of_le (by omega)]
    exact Ev.now _
  | d + 1, i, h => by
    have ih := getB_at l name hl d (i + 1) (by omega)
    have e := rd47_eq l i (by omega) (by omega)
    have hd : l.drop i = rd_T47 l i :: l.drop (i + 1) := by rw [e]; exact List.drop_eq_getElem_cons (by omega)
    refine Ev.step (fun k => by rw [klaxonref09_Get.l0]) ?_
    refine Ev.ifp (by omega) (Ev.ifp (by omega) ?_)
    rw [hd]
    by_cases c : (rd_T47 l i).f0.toList = name.toList
    · refine Ev.ifp c ?_
      have : getB (rd_T47 l i :: l.drop (i + 1)) name = (rd_T47 l i).f1 := by unfold getB; rw [List.find?_cons_of_pos (by unfold eqN; rw [c]; simp)]
      rw [this]
      exact Ev.now _
    · refine Ev.ifn c ?_
      have : getB (rd_T47 l i :: l.drop (i + 1)) name = getB (l.drop (i + 1)) name := by unfold getB; rw [List.find?_cons_of_neg (by unfold eqN; simpa using c)]
      rw [this, show wrap64 ((i : Int) + 1) = ((i + 1 : Nat) : Int) by unfold wrap64; omega]
      exact ih
theorem refGet_ev (l : List S47) (name : ByteArray) (hl : l.length ≤ 4611686018427387904) : Ev (fun k => klaxonref09_Get.f k l name) (getB l name) := by
  have := getB_at l name hl l.length 0 (by omega)
  rw [List.drop_zero] at this
  exact this
theorem refGet_call (A : Option Addr) (c : Nat) (l : List S47) (name : ByteArray) (w : World) (hr : Kd.C k47 w A l.length l) (hc : l.length ≤ c) (hl : l.length ≤ 4611686018427387904) :
    Calls Tryz.prog 31 #[.slice A l.length c, .string name] w fun e w' => e = .returned (.string (getB l name)) ∧ Drawn0 w w' := by
  obtain ⟨k, h⟩ := (refGet_ev l name hl).rounds
  exact klaxonref09_Get.calls k A c l name _ w hr hc h
def klaxonref09_Match.f (l0 : List S47) (l1 : List S35) : Option Bool := labels_Match.f l0 l1

set_option maxHeartbeats 2000000 in
set_option maxRecDepth 100000 in
theorem refMatch (A0 : Option Addr) (c0 : Nat) (l0 : List (S47)) (A1 : Option Addr) (c1 : Nat) (l1 : List (S35)) (w : World) (hr0 : Kd.C k47 w A0 l0.length l0) (hc0 : l0.length ≤ c0) (hr1 : Kd.C k35 w A1 l1.length l1) (n0 : l0.length ≤ 4611686018427387904) (n1 : l1.length ≤ 4611686018427387904) :
    Calls Tryz.prog 21 #[.slice A0 l0.length c0, .slice A1 l1.length c1] w fun e w' => e = .returned (.bool (l1.all (matchB l0))) ∧ Drawn0 w w' := by
  have hu35 := Tryz.underlying35
  have HR0 := Aside0.mk (fun m => Kd.C_drewN hr0 m)
  have HR1 := Aside0.mk (fun m => Kd.C_drewN hr1 m)
  have HC0 := Aside0.mk hc0
  have N0 := Aside0.mk n0
  clear hr0 hr1 hc0 n0
  go_enter Tryz.func21, Tryz.ntmps21
  go_wp2_with fail
  go_loopg [5, 6, 7, 8, 9] l1.length (fun gg v5 _ _ _ _ wr => ∃ i : Int, v5 = .int .i64 i ∧ 0 ≤ i ∧ i ≤ l1.length ∧ Aside0 ((l1.length - i).toNat ≤ gg) ∧ Drawn0 w wr ∧ Aside0 ((l1.drop i.toNat).all (matchB l0) = l1.all (matchB l0)))
  case atStart => exact ⟨0, rfl, by omega, by omega, ⟨by omega⟩, Drawn0.refl _, ⟨rfl⟩⟩
  case round =>
    obtain ⟨i, rfl, p0, p1, HG, ⟨nd, rfl⟩, HI⟩ := hrel
    have hG := HG.out
    by_cases hlt : i < (l1.length : Int)
    · obtain ⟨ad, e, hx0, hx1, hx2⟩ := at_T35 (HR1.out nd) i p0 hlt
      cases e
      have HD := Aside0.mk (show (l1.drop i.toNat).all (matchB l0) = (mB (getB l0 (rd_T35 l1 i).f0) (rd_T35 l1 i).f1 (rd_T35 l1 i).f2 && (l1.drop (i + 1).toNat).all (matchB l0)) by
        rw [show l1.drop i.toNat = rd_T35 l1 i :: l1.drop (i + 1).toNat by
          rw [rd35_eq l1 i p0 hlt, show (i + 1).toNat = i.toNat + 1 by omega]; exact List.drop_eq_getElem_cons (by omega)]
        rw [List.all_cons]; rfl)
      have HDW := Aside0.mk (Drawn0.step (Drawn0.refl w) nd)
      have HGET := Aside0.mk (fun n => (refGet_call A0 c0 l0 (rd_T35 l1 i).f0 ((w.drewN nd).drewN n) (Kd.C_drewN (HR0.out nd) n) HC0.out N0.out).mono fun e w' ⟨he, hd⟩ => (show e = Ending.returned (.string (getB l0 (rd_T35 l1 i).f0)) ∧ ∃ m, w' = ((w.drewN nd).drewN n).drewN m from ⟨he, hd.out⟩))
      generalize (rd_T35 l1 i).f0 = nm at hx0 HD HGET
      generalize (rd_T35 l1 i).f1 = op at hx1 HD
      generalize (rd_T35 l1 i).f2 = ww at hx2 HD
      generalize getB l0 nm = vv at HD HGET
      generalize w.drewN nd = W at hx0 hx1 hx2 HDW HGET ⊢
      go_upto_region 4 with (fail)
      go_quiet ((go_at_call 31; exact Calls.quiet_of (HGET.out _)))
      go_upto_region 5 with (fail)
      obtain ⟨W2, hW2⟩ : ∃ W2, W2 = W.drewN nq := ⟨_, rfl⟩
      have HDW2 := Aside0.mk (show Drawn0 w W2 by rw [hW2]; exact Drawn0.step HDW.out nq)
      have k0 : W2.cell? ⟨(ad.add (i.toNat * 3)).block, (ad.add (i.toNat * 3)).off + 1, none⟩ = some (.string op) := by rw [hW2]; exact hx1
      rw [← hW2]
      clear hW2 hx0 hx1 hx2 HDW HGET
      go_cut [8] (fun v8 wc => wc = W2 ∧ v8 = .bool (begB vv ww))
      case first =>
        by_cases hz : ww.size ≤ vv.size
        · have z1 : (ww.size : Int) ≤ (vv.size : Int) := by omega
          have HE := Aside0.mk (show begB vv ww = ((vv.extract 0 ww.size).toList == ww.toList) by unfold begB; rw [if_pos hz])
          have z2 : ¬ (vv.size : Int) < (ww.size : Int) := by omega
          have z3 : ¬ vv.size < ww.size := by omega
          go_wp2_with fail
          go_meet
          case rel => exact ⟨rfl, by rw [HE.out]⟩
        · have z1 : ¬ (ww.size : Int) ≤ (vv.size : Int) := by omega
          have HE := Aside0.mk (show begB vv ww = false by unfold begB; rw [if_neg hz])
          go_wp2_with fail
          go_meet
          case rel => exact ⟨rfl, by rw [HE.out]⟩
      case rest =>
        obtain ⟨rfl, rfl⟩ := hcut
        generalize hbg : begB vv ww = bg
        have HM := Aside0.mk (show mB vv op ww = mB vv op ww from rfl)
        have fin : ∀ b : Bool, mB vv op ww = b → (b = true → (l1.drop (i + 1).toNat).all (matchB l0) = l1.all (matchB l0)) ∧ (b = false → false = l1.all (matchB l0)) := by
          intro b hb
          have h1 := HD.out
          rw [hb, HI.out] at h1
          cases b with
          | true => exact ⟨fun _ => by rw [h1]; rfl, fun h => by cases h⟩
          | false => exact ⟨fun h => (by cases h), fun _ => by rw [h1]; rfl⟩
        have HFIN := Aside0.mk fin
        clear fin
        have HBG := Aside0.mk hbg
        clear hbg
        by_cases o1 : op.toList = [61]
        · have o1b : (op.toList == [61]) = true := by rw [o1]; rfl
          obtain ⟨r, hr⟩ : ∃ r : Bool, (vv.toList == ww.toList) = r := ⟨_, rfl⟩
          obtain ⟨F1, F2⟩ := HFIN.out r (by rw [← hr]; unfold mB; rw [if_pos o1])
          have G1 := Aside0.mk F1
          have G2 := Aside0.mk F2
          clear F1 F2 HFIN HM HD HI
          cases r with
          | true =>
            have K1 := Aside0.mk (G1.out rfl)
            clear G1 G2
            go_wp2_with fail
            go_roundg (l1.length - (i + 1)).toNat
            case measure => omega
            case rel => exact ⟨i + 1, by go_num, by omega, by omega, ⟨Nat.le_refl _⟩, HDW2.out, ⟨K1.out⟩⟩
          | false =>
            have K2 := Aside0.mk (G2.out rfl)
            clear G1 G2
            go_wp2_with fail
            go_ret
            exact ⟨by rw [← K2.out]; rfl, HDW2.out⟩
        · have o1b : (op.toList == [61]) = false := by simpa using o1
          by_cases o2 : op.toList = [33, 61]
          · have o2b : (op.toList == [33, 61]) = true := by rw [o2]; rfl
            obtain ⟨q, hq⟩ : ∃ q : Bool, (vv.toList == ww.toList) = q := ⟨_, rfl⟩
            obtain ⟨r, hr⟩ : ∃ r : Bool, (!q) = r := ⟨_, rfl⟩
            obtain ⟨F1, F2⟩ := HFIN.out r (by rw [← hr]; unfold mB; rw [if_neg o1, if_pos o2, hq])
            have G1 := Aside0.mk F1
            have G2 := Aside0.mk F2
            clear F1 F2 HFIN HM HD HI
            cases r with
            | true =>
              have K1 := Aside0.mk (G1.out rfl)
              clear G1 G2
              go_wp2_with fail
              go_roundg (l1.length - (i + 1)).toNat
              case measure => omega
              case rel => exact ⟨i + 1, by go_num, by omega, by omega, ⟨Nat.le_refl _⟩, HDW2.out, ⟨K1.out⟩⟩
            | false =>
              have K2 := Aside0.mk (G2.out rfl)
              clear G1 G2
              go_wp2_with fail
              go_ret
              exact ⟨by rw [← K2.out]; rfl, HDW2.out⟩
          · have o2b : (op.toList == [33, 61]) = false := by simpa using o2
            by_cases o3 : op.toList = [94, 61]
            · have o3b : (op.toList == [94, 61]) = true := by rw [o3]; rfl
              obtain ⟨r, hr⟩ : ∃ r : Bool, bg = r := ⟨_, rfl⟩
              obtain ⟨F1, F2⟩ := HFIN.out r (by rw [← hr]; unfold mB; rw [if_neg o1, if_neg o2, if_pos o3, HBG.out])
              have G1 := Aside0.mk F1
              have G2 := Aside0.mk F2
              clear F1 F2 HFIN HM HD HI
              cases r with
              | true =>
                have K1 := Aside0.mk (G1.out rfl)
                clear G1 G2
                go_wp2_with fail
                go_roundg (l1.length - (i + 1)).toNat
                case measure => omega
                case rel => exact ⟨i + 1, by go_num, by omega, by omega, ⟨Nat.le_refl _⟩, HDW2.out, ⟨K1.out⟩⟩
              | false =>
                have K2 := Aside0.mk (G2.out rfl)
                clear G1 G2
                go_wp2_with fail
                go_ret
                exact ⟨by rw [← K2.out]; rfl, HDW2.out⟩
            · have o3b : (op.toList == [94, 61]) = false := by simpa using o3
              by_cases o4 : op.toList = [33, 94]
              · have o4b : (op.toList == [33, 94]) = true := by rw [o4]; rfl
                obtain ⟨r, hr⟩ : ∃ r : Bool, (!bg) = r := ⟨_, rfl⟩
                obtain ⟨F1, F2⟩ := HFIN.out r (by rw [← hr]; unfold mB; rw [if_neg o1, if_neg o2, if_neg o3, if_pos o4, HBG.out])
                have G1 := Aside0.mk F1
                have G2 := Aside0.mk F2
                clear F1 F2 HFIN HM HD HI
                cases r with
                | true =>
                  have K1 := Aside0.mk (G1.out rfl)
                  clear G1 G2
                  go_wp2_with fail
                  go_roundg (l1.length - (i + 1)).toNat
                  case measure => omega
                  case rel => exact ⟨i + 1, by go_num, by omega, by omega, ⟨Nat.le_refl _⟩, HDW2.out, ⟨K1.out⟩⟩
                | false =>
                  have K2 := Aside0.mk (G2.out rfl)
                  clear G1 G2
                  go_wp2_with fail
                  go_ret
                  exact ⟨by rw [← K2.out]; rfl, HDW2.out⟩
              · have o4b : (op.toList == [33, 94]) = false := by simpa using o4
                have G2 := Aside0.mk ((HFIN.out false (by unfold mB; rw [if_neg o1, if_neg o2, if_neg o3, if_neg o4])).2 rfl)
                clear HFIN HM HD HI
                go_wp2_with fail
                go_ret
                exact ⟨by rw [← G2.out]; rfl, HDW2.out⟩
    · have hle : ¬ i < (l1.length : Int) := hlt
      have HE := Aside0.mk (show true = l1.all (matchB l0) by rw [← HI.out, List.drop_eq_nil_of_le (by omega)]; rfl)
      go_wp2_with fail
      go_ret
      exact ⟨by rw [← HE.out]; rfl, Drawn0.step (Drawn0.refl w) nd⟩
theorem klaxonref09_Match.calls (A0 : Option Addr) (c0 : Nat) (l0 : List (S47)) (A1 : Option Addr) (c1 : Nat) (l1 : List (S35)) (r : Bool) (w : World) (hr0 : Kd.C k47 w A0 l0.length l0) (hc0 : l0.length ≤ c0) (hr1 : Kd.C k35 w A1 l1.length l1) (hc1 : l1.length ≤ c1) (h : klaxonref09_Match.f l0 l1 = some r) :
    Calls Tryz.prog 21 #[.slice A0 l0.length c0, .slice A1 l1.length c1] w fun e w' => e = .returned (.bool r) ∧ Below w.heap.size w w' := by
  unfold klaxonref09_Match.f labels_Match.f at h
  by_cases hm : l0.length ≤ 4611686018427387904 ∧ l1.length ≤ 4611686018427387904
  · rw [if_pos hm] at h
    rw [← Option.some.inj h]
    exact (refMatch A0 c0 l0 A1 c1 l1 w hr0 hc0 hr1 hm.1 hm.2).mono fun e w' ⟨he, hd⟩ => ⟨he, hd.below⟩
  · rw [if_neg hm] at h; cases h
end Go.Proofs.YtmhilolgjcfhjaaGreat.X
