/- slices.SortStableFunc's insertion sort. -/
import Derived.Test.YtmhilolgjcfhjaaGreatPA
import Derived.Lib.QuietBelow
set_option linter.unusedVariables false
set_option linter.unusedSimpArgs false

/- slices.insertionSortCmpFunc at labels by their names: as the kit's plain insertion sort. -/
namespace Go.Proofs.YtmhilolgjcfhjaaGreat.X
open Go.RowKit Go.Proofs.YtmhilolgjcfhjaaGreatW.PrintWords Go.Proofs.YtmhilolgjcfhjaaGreatW.PrintLast Go.Proofs.YtmhilolgjcfhjaaGreatW.PrintMore
open Go.Sort (swp size_swp swp_other swp_left swp_right PermIn swp_permIn permIn_refl permIn_trans insInner insOuter)

theorem insInner_size (a j : Nat) (d : Array S47) : (insInner ltN a j d).size = d.size := by
  induction j generalizing d with
  | zero => rfl
  | succ j ih => rw [insInner]; split; rw [ih, size_swp]; rfl
theorem insOuter_size (a b i : Nat) (d : Array S47) : (insOuter ltN a b i d).size = d.size := by
  induction h : b - i generalizing i d with
  | zero => rw [insOuter, if_neg (by omega)]
  | succ n ih => rw [insOuter, if_pos (by omega), ih _ _ (by omega), insInner_size]

set_option maxHeartbeats 1000000 in
set_option maxRecDepth 100000 in
theorem insertion (a b : Int) (w0 : World) (g cap : Nat) (tl : List Value) (d : Array S47) (w : World) (ha : 0 ≤ a) (hab : a ≤ b) (hb : b ≤ d.size) (hsz : d.size < 4611686018427387904)
    (hs : SRow w0 g tl d w) :
    Calls Tryz.prog 72 #[.slice (some ⟨g, 0, none⟩) d.size cap, .int .i64 a, .int .i64 b, .func (.func 41) #[] #[]] w fun e w' => e = .returned (.tuple #[]) ∧ SRow w0 g tl (Go.Sort.insertionSort ltN d a.toNat b.toNat) w' := by
  have hu47 := Tryz.underlying47
  have HS := Aside0.mk hs
  clear hs
  go_enter Tryz.func72, Tryz.ntmps72
  go_wp2
  go_loopg [8] (b - a).toNat (fun gg s8 wr => ∃ (i : Int) (D : Array S47), s8 = .int .i64 i ∧ a < i ∧ i ≤ b + 1 ∧ Aside0 ((b - i).toNat ≤ gg) ∧ Aside0 (SRow w0 g tl D wr) ∧ Aside0 (D.size = d.size) ∧ Aside0 (insOuter ltN a.toNat b.toNat i.toNat D = Go.Sort.insertionSort ltN d a.toNat b.toNat))
  case atStart => exact ⟨a + 1, d, by go_num, by omega, by omega, ⟨by omega⟩, ⟨HS.out⟩, ⟨rfl⟩, ⟨by unfold Go.Sort.insertionSort; rw [show (a + 1).toNat = a.toNat + 1 by omega]⟩⟩
  case round =>
    obtain ⟨i, D, rfl, hai, hib, HG, HR, HZ, HO⟩ := hrel
    by_cases hlt : i < b
    · have HO2 := Aside0.mk (show insOuter ltN a.toNat b.toNat (i + 1).toNat (insInner ltN a.toNat i.toNat D) = Go.Sort.insertionSort ltN d a.toNat b.toNat by
        rw [← HO.out, show (i + 1).toNat = i.toNat + 1 by omega]; conv => rhs; rw [insOuter, if_pos (by omega)])
      clear HO
      go_wp2
      obtain ⟨wo, hwo⟩ : ∃ wo : World, wo = wr := ⟨_, rfl⟩
      subst hwo
      go_loopg [9] i.toNat (fun gg s9 wr => ∃ (j : Int) (E : Array S47), s9 = .int .i64 j ∧ a ≤ j ∧ j ≤ i ∧ Aside0 (j.toNat ≤ gg) ∧ Aside0 (SRow w0 g tl E wr) ∧ Aside0 (E.size = d.size) ∧ Aside0 (insInner ltN a.toNat j.toNat E = insInner ltN a.toNat i.toNat D))
      case atStart => exact ⟨i, D, rfl, by omega, by omega, ⟨by omega⟩, ⟨HR.out⟩, ⟨HZ.out⟩, ⟨rfl⟩⟩
      case round =>
        obtain ⟨j, E, rfl, haj, hji, HG2, HR2, HZ2, HI⟩ := hrel
        by_cases hja : a < j
        · have hz2 := HZ2.out
          obtain ⟨h1, h2⟩ := HR2.out.cells j.toNat (by omega)
          obtain ⟨h3, h4⟩ := HR2.out.cells (j.toNat - 1) (by omega)
          generalize hX : E[j.toNat]! = X at h1 h2
          generalize hY : E[j.toNat - 1]! = Y at h3 h4
          have HX := Aside0.mk hX
          have HY := Aside0.mk hY
          clear hX hY
          have p1 : 0 ≤ j := by omega
          have p2 : j < (d.size : Int) := by omega
          have p3 : 0 ≤ j - 1 := by omega
          have p4 : j - 1 < (d.size : Int) := by omega
          have p5 : 1 ≤ j := by omega
          have q1 : decide (a < j) = true := decide_eq_true hja
          have q2 : IntKind.i64.wrap (j - 1) = j - 1 := IntWalk.i64_in _ (by omega)
          have HRS := HR2.out
          by_cases hlv : cmpS X.f0 Y.f0 < 0
          · have q8 : decide (cmpS X.f0 Y.f0 < 0) = true := decide_eq_true hlv
            have HI2 := Aside0.mk (show insInner ltN a.toNat (j - 1).toNat (swp E j.toNat (j.toNat - 1)) = insInner ltN a.toNat i.toNat D by
              rw [← HI.out, show (j - 1).toNat = j.toNat - 1 by omega]
              obtain ⟨m, hm⟩ : ∃ m, j.toNat = m + 1 := ⟨j.toNat - 1, by omega⟩
              rw [hm]
              rw [hm] at HX HY
              rw [insInner, if_pos]
              · simp
              · have e2 : ltN E[m + 1]! E[m]! = true := by rw [ltN_true, HX.out]; have := HY.out; simp only [Nat.add_sub_cancel] at this; rw [this]; exact hlv
                simp [e2]; omega)
            clear HI hlv
            go_wp2
            have l1 := cell_regrown h1
            have l2 := cell_regrown h2
            have l3 := cell_regrown h3
            have l4 := cell_regrown h4
            have HRS0 := Aside0.mk HRS
            clear h1 h2 h3 h4 HRS
            refine wp_region_quiet_below (by kernel_rfl) (by kernel_rfl) ?_
            repeat (quiet_step ((go_at_call 41; exact Calls.regrown_of (byName _ _ _))))
            refine wpQuiet_nil ?_
            intro _ hw'
            obtain ⟨⟨dq, osq⟩, hw''⟩ := hw'
            subst hw''
            have hb2 := below_regrown wr dq osq
            generalize Go.Sort.grow (redrawn wr dq) osq = w2 at hb2 ⊢
            clear l1 l2 l3 l4
            have HR3 := HRS0.out.below hb2
            clear hb2
            obtain ⟨h1, h2⟩ := HR3.cells j.toNat (by omega)
            obtain ⟨h3, h4⟩ := HR3.cells (j.toNat - 1) (by omega)
            rw [HX.out] at h1 h2
            rw [HY.out] at h3 h4
            have hfz : ∀ j, w2.frozen? ⟨g, j, none⟩ = false := fun j => HR3.frozen j
            have HRR := Aside0.mk (((HR3.store j.toNat (by omega) Y).store (j.toNat - 1) (by simp; omega) X).drew)
            have HSW := Aside0.mk (show swp E j.toNat (j.toNat - 1) = (E.setIfInBounds j.toNat Y).setIfInBounds (j.toNat - 1) X by unfold swp; rw [HX.out, HY.out])
            have HZ3 := Aside0.mk (show (swp E j.toNat (j.toNat - 1)).size = d.size by rw [size_swp]; exact hz2)
            have hG2 := HG2.out
            clear HR3 hz2
            go_wp2
            go_region
            go_wp2
            go_roundg (j - 1).toNat
            case measure => omega
            case rel => exact ⟨j - 1, _, by go_num, by omega, by omega, ⟨Nat.le_refl _⟩, ⟨by rw [HSW.out]; exact HRR.out⟩, ⟨HZ3.out⟩, ⟨HI2.out⟩⟩
          · have q8 : decide (cmpS X.f0 Y.f0 < 0) = false := decide_eq_false hlv
            have HI2 := Aside0.mk (show insInner ltN a.toNat i.toNat D = E by
              rw [← HI.out]
              obtain ⟨m, hm⟩ : ∃ m, j.toNat = m + 1 := ⟨j.toNat - 1, by omega⟩
              rw [hm]
              rw [hm] at HX HY
              rw [insInner, if_neg]
              have e2 : ltN E[m + 1]! E[m]! = false := by rw [HX.out]; have := HY.out; simp only [Nat.add_sub_cancel] at this; rw [this]; exact q8
              simp [e2])
            clear HI hlv
            go_wp2
            have l1 := cell_regrown h1
            have l2 := cell_regrown h2
            have l3 := cell_regrown h3
            have l4 := cell_regrown h4
            have HRS0 := Aside0.mk HRS
            clear h1 h2 h3 h4 HRS
            refine wp_region_quiet_below (by kernel_rfl) (by kernel_rfl) ?_
            repeat (quiet_step ((go_at_call 41; exact Calls.regrown_of (byName _ _ _))))
            refine wpQuiet_nil ?_
            intro _ hw'
            obtain ⟨⟨dq, osq⟩, hw''⟩ := hw'
            subst hw''
            have hb2 := below_regrown wr dq osq
            generalize Go.Sort.grow (redrawn wr dq) osq = w2 at hb2 ⊢
            clear l1 l2 l3 l4
            have HR3 := HRS0.out.below hb2
            clear hb2
            have hG := HG.out
            go_wp2
            go_roundg (b - (i + 1)).toNat
            case measure => omega
            case rel => exact ⟨i + 1, E, by go_num, by omega, by omega, ⟨Nat.le_refl _⟩, ⟨HR3⟩, ⟨hz2⟩, ⟨by rw [← HO2.out, HI2.out]⟩⟩
        · have q1 : decide (a < j) = false := decide_eq_false hja
          have q2 : ¬ a < j := hja
          have HI2 := Aside0.mk (show insInner ltN a.toNat i.toNat D = E by
              rw [← HI.out]
              cases hj : j.toNat with
              | zero => rfl
              | succ m =>
                rw [insInner, if_neg]
                have : ¬ m + 1 > a.toNat := by omega
                simp [this])
          have HRS := Aside0.mk (HR2.out.drew)
          clear HI hja
          have hG := HG.out
          have hz2 := HZ2.out
          go_wp2
          go_region
          go_wp2
          go_roundg (b - (i + 1)).toNat
          case measure => omega
          case rel => exact ⟨i + 1, E, by go_num, by omega, by omega, ⟨Nat.le_refl _⟩, ⟨HRS.out⟩, ⟨hz2⟩, ⟨by rw [← HO2.out, HI2.out]⟩⟩
    · have hle : ¬ i < b := hlt
      have HO2 := Aside0.mk (show D = Go.Sort.insertionSort ltN d a.toNat b.toNat by rw [← HO.out, insOuter, if_neg (by omega)])
      clear HO
      go_wp2
      go_end0
      exact ⟨rfl, by rw [← HO2.out]; exact HR.out⟩
end Go.Proofs.YtmhilolgjcfhjaaGreat.X
