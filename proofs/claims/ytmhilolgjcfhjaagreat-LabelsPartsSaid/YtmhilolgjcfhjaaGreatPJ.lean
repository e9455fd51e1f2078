/- labels.Join and With: what they answer in plain Lean. -/
import Derived.Test.YtmhilolgjcfhjaaGreatPA
import Derived.Test.YtmhilolgjcfhjaaGreatPH
import Derived.Test.YtmhilolgjcfhjaaGreatPE
import Derived.Test.YtmhilolgjcfhjaaGreatPI
import Derived.Test.YtmhilolgjcfhjaaGreatPG
set_option linter.unusedVariables false
set_option linter.unusedSimpArgs false

namespace Go.Proofs.YtmhilolgjcfhjaaGreat.X
open Go.RowKit Go.Proofs.YtmhilolgjcfhjaaGreatW.PrintWords Go.Proofs.YtmhilolgjcfhjaaGreatW.PrintLast Go.Proofs.YtmhilolgjcfhjaaGreatW.PrintMore
attribute [local go_sem] max2_int min2_int max_two min_two max_three min_three max_four min_four   -- for this text's walks alone
set_option linter.unusedVariables false
set_option linter.unusedSimpArgs false

attribute [local go_sem high] eqA47
/-! ### labels_Join: function 22 -/
def labels_Join.l0 : Nat → List (S47) → List (S47) → List (S47) → Int → Int → Option ((List (S47)) × Bool)
  | 0, _, _, _, _, _ => none
  | k + 1, x0, x6, x14, x15, x16 => if x16 < x15 then (if 0 ≤ x16 then (if x16 < (x14.length : Int) then ((labels_Get.f x0 ((rd_T47 x14 x16).f0)).bind fun t123 => (if t123.toList = ([] : List UInt8) then (if x6.length < 4398046511104 then (labels_Join.l0 k x0 (x6 ++ [(⟨(rd_T47 x14 x16).f0, (rd_T47 x14 x16).f1⟩ : S47)]) x14 x15 (wrap64 (x16 + 1))) else (none)) else (if (!(t123.toList == (((rd_T47 x14 x16).f1).toList))) = true then (some (([] : List (S47)), false)) else (labels_Join.l0 k x0 x6 x14 x15 (wrap64 (x16 + 1)))))) else (none)) else (none)) else ((labels_Make.f x6).bind fun bt117 => (some (bt117.1, (bt117.2 == 0))))
def labels_Join.f (k : Nat) (l0 : List (S47)) (l1 : List (S47)) : Option ((List (S47)) × Bool) := (slices_Clone_Label.f l0).bind fun t114 => (labels_Join.l0 k l0 t114 l1 (l1.length : Int) 0)
theorem labels_Join.mono_l : ∀ k, (∀ y0 y1 y2 y3 y4, LeO (labels_Join.l0 k y0 y1 y2 y3 y4) (labels_Join.l0 (k + 1) y0 y1 y2 y3 y4))
  | 0 => fun _ _ _ _ _ r h => by simp [labels_Join.l0] at h
  | k + 1 => by
    have ih0 := labels_Join.mono_l k
    · intro y0 y1 y2 y3 y4
      unfold labels_Join.l0
      repeat' first
      | (with_reducible exact ih0 _ _ _ _ _)
      | (with_reducible exact LeO.refl _)
      | (with_reducible exact LeO.none _)
      | (with_reducible refine LeO.ite ?_ ?_)
      | (with_reducible refine LeO.bind ?_ (fun _ => ?_))
      | exact ih0 _ _ _ _ _
      | exact LeO.none _
      | refine LeO.ite ?_ ?_
      | refine LeO.bind ?_ (fun _ => ?_)
theorem labels_Join.mono : ∀ a0 a1 k, LeO (labels_Join.f k a0 a1) (labels_Join.f (k + 1) a0 a1) := by
  intro a0 a1 k
  have ih0 := labels_Join.mono_l k
  unfold labels_Join.f
  repeat' first
      | (with_reducible exact ih0 _ _ _ _ _)
      | (with_reducible exact LeO.refl _)
      | (with_reducible exact LeO.none _)
      | (with_reducible refine LeO.ite ?_ ?_)
      | (with_reducible refine LeO.bind ?_ (fun _ => ?_))
      | exact ih0 _ _ _ _ _
      | exact LeO.none _
      | refine LeO.ite ?_ ?_
      | refine LeO.bind ?_ (fun _ => ?_)
set_option maxHeartbeats 8000000 in
set_option maxRecDepth 100000 in
theorem labels_Join.calls (k : Nat) (A0 : Option Addr) (c0 : Nat) (l0 : List (S47)) (A1 : Option Addr) (c1 : Nat) (l1 : List (S47)) (r1 : List (S47)) (r2 : Bool) (w : World) (hr0 : Kd.C k47 w A0 l0.length l0) (hc0 : l0.length ≤ c0) (hr1 : Kd.C k47 w A1 l1.length l1) (hc1 : l1.length ≤ c1) (h : labels_Join.f k l0 l1 = some (r1, r2)) :
    Calls Tryz.prog 22 #[.slice A0 l0.length c0, .slice A1 l1.length c1] w fun e w' => ∃ v0_ : Value, e = .returned (.tuple #[v0_, .bool r2]) ∧ Kd.R k47 47 w' w.heap.size (fun _ => True) v0_ r1 ∧ Below w.heap.size w w' := by
  have hu47 := Tryz.underlying47
  have HR0 := Aside0.mk hr0
  have HC0 := Aside0.mk hc0
  clear hr0 hc0
  have HR1 := Aside0.mk hr1
  have HC1 := Aside0.mk hc1
  clear hr1 hc1
  have HB := Aside0.mk (Below.refl w.heap.size w)
  have H : ((slices_Clone_Label.f l0).bind fun t114 => (labels_Join.l0 k l0 t114 l1 (l1.length : Int) 0)) = some (r1, r2) := h
  clear h
  replace H := Option.bind_eq_some_iff.mp H
  obtain ⟨t114, A30, H⟩ := H
  replace H : (labels_Join.l0 k l0 t114 l1 (l1.length : Int) 0) = some (r1, r2) := H
  have A3 := Aside0.mk A30
  clear A30
  have H' := Aside0.mk H
  clear H
  go_enter Tryz.func22, Tryz.ntmps22
  go_wp2_with (first | ((with_reducible refine gate_callee (f := 39) rfl ?_); refine goesL_ (some 13) rfl rfl Tryz.func39 (by kernel_rfl) rfl #[.slice A0 l0.length c0] rfl (by (try simp only [List.map_toArray, List.map_cons, List.map_nil]); first | done | rfl | (simp only [List.length_drop, List.length_take]; rfl)) ?_; (with_reducible refine (slices_Clone_Label.calls _ _ l0 t114 _ ?side1 ?side2 A3.out).mono ?_); (case side1 => repeat (first | exact HR0.out | (with_reducible refine Kd.C_alloc ?_ _) | (with_reducible refine Kd.C_drewN ?_ _) | (with_reducible refine Kd.C_drew ?_))); (case side2 => exact HC0.out); rintro e w4 ⟨v115, rfl, ho0, hb⟩; refine ⟨_, rfl, ?_⟩; have n0_ := Aside0.mk (Kd.R_lower ho0 (below_size (by repeat (first | (with_reducible first | exact HB.out | apply below_alloc | apply pw_below_drewN | apply below_drew1) | exact HB.out)))); have n1_ := Aside0.mk (below_step (by repeat (first | (with_reducible first | exact HB.out | apply below_alloc | apply pw_below_drewN | apply below_drew1) | exact HB.out)) hb); clear HB; have HO116 := n0_; have HB := n1_; clear n0_ n1_; (try clear hb); (try clear hb2); (try clear hk); (try clear hi); (try clear ho0)))
  go_loopg [6, 16] k (fun kq v6 v16 w' => ∃ (x6_1 : List (S47)) (x16_1 : Int), v16 = .int .i64 x16_1 ∧ Aside0 (labels_Join.l0 kq l0 x6_1 l1 (l1.length : Int) x16_1 = some (r1, r2)) ∧ Aside0 (kq ≤ k) ∧ Aside0 (Kd.R k47 47 w' w.heap.size (fun _ => True) v6 x6_1) ∧ Aside0 (Below w.heap.size w w'))
  case atStart => exact ⟨(t114), (0), (by first | rfl | (simp; done) | (simp [*]; done)), H', ⟨Nat.le_refl _⟩, ⟨by (with_reducible repeat (first | apply Kd.R_alloc | apply Kd.R_drewN | apply Kd.R_drew)); exact HO116.out⟩, ⟨by repeat (first | (with_reducible first | exact HB.out | apply below_alloc | apply pw_below_drewN | apply below_drew1) | exact HB.out)⟩⟩
  case round =>
    clear H'
    try clear c1
    try clear c2
    try clear p2
    try clear c3
    obtain ⟨x6_1, x16_1, rfl, HA, HK1, HO_6, HB⟩ := hrel
    cases gk with
    | zero => exact absurd HA.out (by simp [labels_Join.l0])
    | succ k1 =>
      have H := HA.out
      clear HA
      simp only [labels_Join.l0] at H
      by_cases c5 : x16_1 < (l1.length : Int)
      · rw [if_pos c5] at H
        have c5b0 : decide (x16_1 < (l1.length : Int)) = true := decide_eq_true c5
        clear c5
        by_cases c6 : 0 ≤ x16_1
        · rw [if_pos c6] at H
          have c6b0 : decide (0 ≤ x16_1) = true := decide_eq_true c6
          clear c6
          by_cases c7 : x16_1 < (l1.length : Int)
          · rw [if_pos c7] at H
            have c7b0 : decide (x16_1 < (l1.length : Int)) = true := decide_eq_true c7
            clear c7
            replace H := Option.bind_eq_some_iff.mp H
            obtain ⟨t123, A80, H⟩ := H
            replace H : (if t123.toList = ([] : List UInt8) then (if x6_1.length < 4398046511104 then (labels_Join.l0 k1 l0 (x6_1 ++ [(⟨(rd_T47 l1 x16_1).f0, (rd_T47 l1 x16_1).f1⟩ : S47)]) l1 (l1.length : Int) (wrap64 (x16_1 + 1))) else (none)) else (if (!(t123.toList == (((rd_T47 l1 x16_1).f1).toList))) = true then (some (([] : List (S47)), false)) else (labels_Join.l0 k1 l0 x6_1 l1 (l1.length : Int) (wrap64 (x16_1 + 1))))) = some (r1, r2) := H
            have A8 := Aside0.mk A80
            clear A80
            by_cases c9 : t123.toList = ([] : List UInt8)
            · rw [if_pos c9] at H
              have c9b0 : (t123.toList == ([] : List UInt8)) = true := beq_iff_eq.mpr c9
              have c9b1 : (t123.toList != ([] : List UInt8)) = false := bne_eq_false_iff_eq.mpr c9
              clear c9
              by_cases c10 : x6_1.length < 4398046511104
              · rw [if_pos c10] at H
                have LMc10 := Aside0.mk c10
                clear c10
                obtain ⟨y124, hy124⟩ : ∃ y_ : List (S47), y_ = (x6_1 ++ [(⟨(rd_T47 l1 x16_1).f0, (rd_T47 l1 x16_1).f1⟩ : S47)]) := ⟨_, rfl⟩
                replace H : (labels_Join.l0 k1 l0 y124 l1 (l1.length : Int) (wrap64 (x16_1 + 1))) = some (r1, r2) := by first | (rw [hy124]; with_reducible exact H) | (have H2_ := (Option.bind_some _ _).symm.trans H; rw [hy124]; with_reducible exact H2_) | (have H2_ := (Option.bind_some _ _).symm.trans H; with_reducible exact H2_) | with_reducible exact H | (rw [hy124]; exact H) | exact H
                have Ny124 := Aside0.mk hy124
                clear hy124
                have H' := Aside0.mk H
                clear H
                have p121 : 0 ≤ (x16_1 : Int) := of_decide_eq_true (by first | (with_reducible assumption) | assumption)
                have q121 : x16_1 < (l1.length : Int) := of_decide_eq_true (by first | (with_reducible assumption) | assumption)
                obtain ⟨ad121, e121, hx121_0, hx121_1⟩ := at_T47 HR1.out x16_1 p121 q121
                cases e121
                replace hx121_0 := (HB.out.cell (World.block_lt_of_cell? w _ hx121_0)).trans hx121_0
                replace hx121_1 := (HB.out.cell (World.block_lt_of_cell? w _ hx121_1)).trans hx121_1
                replace p121 := eq_true p121
                replace q121 := eq_true q121
                go_wp2_with (first | ((with_reducible refine gate_dst (N := 8) rfl ?_); refine box_event ?hg (N := 8) ?hd (cs := #[.string (⟨#[]⟩ : ByteArray), .string (⟨#[]⟩ : ByteArray)]) (t := 47) ?hr ?_; (case hd => rfl); (case hg => rfl); (case hr => first | (go_simp; done) | (go_simp; rfl)); intro gb122 hg w11 hbox hb; have n0_ := Aside0.mk (Kd.R_below (Kd.R_elderB (by (with_reducible repeat (first | apply Kd.R_alloc | apply Kd.R_drewN | apply Kd.R_drew)); exact HO_6.out) gb122 (Nat.le_of_eq hg.symm)) hb); have n1_ := Aside0.mk (below_step (by repeat (first | (with_reducible first | exact HB.out | apply below_alloc | apply pw_below_drewN | apply below_drew1) | exact HB.out)) hb); have n2_ := Aside0.mk (hbox); have n3_ := Aside0.mk ((by rw [hg]; exact (below_size (by repeat (first | (with_reducible first | exact HB.out | apply below_alloc | apply pw_below_drewN | apply below_drew1) | exact HB.out))) : w.heap.size ≤ gb122)); have n4_ := Aside0.mk ((by rw [hg]; exact (below_size (by repeat (first | (with_reducible first | exact HB.out | apply below_alloc | apply pw_below_drewN | apply below_drew1) | exact HB.out))) : w.heap.size ≤ gb122)); clear HO_6; clear HB; have HO_6 := n0_; have HB := n1_; have BK122 := n2_; have GW122 := n3_; have GE122 := n4_; clear n0_ n1_ n2_ n3_ n4_; clear hb hbox hg; have hcz12_0 : w11.cell? ⟨gb122, 0, none⟩ = some (.string (⟨#[]⟩ : ByteArray)) := (blk_cell BK122.out 0).trans rfl; have hcz12_1 : w11.cell? ⟨gb122, 1, none⟩ = some (.string (⟨#[]⟩ : ByteArray)) := (blk_cell BK122.out 1).trans rfl; have hfz12_0 := blk_frozen BK122.out 0; have hfz12_1 := blk_frozen BK122.out 1) | ((with_reducible refine gate_callee (f := 25) rfl ?_); refine goesL_ (some 23) rfl rfl Tryz.func25 (by kernel_rfl) rfl #[.slice A0 l0.length c0, .string ((rd_T47 l1 x16_1).f0)] rfl (by (try simp only [List.map_toArray, List.map_cons, List.map_nil]); first | done | rfl | (simp only [List.length_drop, List.length_take]; rfl)) ?_; (with_reducible refine (labels_Get.calls _ _ l0 ((rd_T47 l1 x16_1).f0) t123 _ ?side1 ?side2 A8.out).mono ?_); (case side1 => exact Kd.C_below HR0.out (by repeat (first | (with_reducible first | exact HB.out | apply below_alloc | apply pw_below_drewN | apply below_drew1 | refine below_set ?_ GE122.out) | exact HB.out))); (case side2 => exact HC0.out); rintro e w13 ⟨rfl, hb⟩; refine ⟨_, rfl, ?_⟩; have n0_ := Aside0.mk (Kd.R_below (by (with_reducible repeat (first | apply Kd.R_alloc | apply Kd.R_drewN | apply Kd.R_drew)); exact (Kd.R_mono (Kd.R_far (p := ⟨gb122, 1, none⟩) (Kd.R_far (p := ⟨gb122, 0, none⟩) (Kd.R_mono HO_6.out (fun k_ hk => (⟨hk, hk.2⟩ : _ ∧ k_ ≠ gb122))) (fun _ hk => hk.2) (.string ((rd_T47 l1 x16_1).f0))) (fun _ hk => hk.2) (.string ((rd_T47 l1 x16_1).f1))) (fun _ h_ => h_.1))) hb); have n1_ := Aside0.mk (blk_below (g := gb122) (o := .cells #[.string ((rd_T47 l1 x16_1).f0), .string ((rd_T47 l1 x16_1).f1)] 47 (0, 0)) (by (with_reducible repeat (first | refine blk_drewN ?_ _ | refine blk_drew ?_ | refine blk_alloc ?_ _)); refine blk_put (cs := #[.string ((rd_T47 l1 x16_1).f0), .string (⟨#[]⟩ : ByteArray)]) ?_ 1 _ rfl; (with_reducible repeat (first | refine blk_drewN ?_ _ | refine blk_drew ?_ | refine blk_alloc ?_ _)); refine blk_put (cs := #[.string (⟨#[]⟩ : ByteArray), .string (⟨#[]⟩ : ByteArray)]) ?_ 0 _ rfl; (with_reducible repeat (first | refine blk_drewN ?_ _ | refine blk_drew ?_ | refine blk_alloc ?_ _)); exact BK122.out) hb); have n2_ := Aside0.mk (below_step (by repeat (first | (with_reducible first | exact HB.out | apply below_alloc | apply pw_below_drewN | apply below_drew1 | refine below_set ?_ GE122.out) | exact HB.out)) hb); clear HO_6; clear BK122; clear HB; have HO_6 := n0_; have BK122 := n1_; have HB := n2_; clear n0_ n1_ n2_; (try clear hb); (try clear hb2); (try clear hk); (try clear hi); have hcz14_0 : w13.cell? ⟨gb122, 0, none⟩ = some (.string ((rd_T47 l1 x16_1).f0)) := (blk_cell BK122.out 0).trans rfl; have hcz14_1 : w13.cell? ⟨gb122, 1, none⟩ = some (.string ((rd_T47 l1 x16_1).f1)) := (blk_cell BK122.out 1).trans rfl; have hfz14_0 := blk_frozen BK122.out 0; have hfz14_1 := blk_frozen BK122.out 1) | ((with_reducible refine gate_builtin (b := .append) (xs := #[.tmp 27, .tmp 29]) rfl ?_); at_builtin; refine Kd.R_append k47 (w0 := w) w.heap.size rfl (.tmp 27) (.tmp 29) 22 47 (.agg #[(.string ⟨#[]⟩), (.string ⟨#[]⟩)]) 32 rfl Tryz.underlying22 info47 rfl (by decide) (by omega) u6 x6_1 (⟨(rd_T47 l1 x16_1).f0, (rd_T47 l1 x16_1).f1⟩ : S47) [.string ((rd_T47 l1 x16_1).f0), .string ((rd_T47 l1 x16_1).f1)] (fun k_ => k_ ≠ gb122) (fun _ => False) rfl rfl ?aP (fun _ hk => hk.elim) ?aF ?aO ?aB ?aS ?aL ?_; (case aP => exact k47_mkM _ _ _ (⟨(rd_T47 l1 x16_1).f0, (rd_T47 l1 x16_1).f1⟩ : S47)); (case aB => exact (by repeat (first | (with_reducible first | exact HB.out | apply below_alloc | apply pw_below_drewN | apply below_drew1 | refine below_set ?_ GE122.out) | exact HB.out))); (case aF => exact (fun k_ hk => Kd.freshB (g := gb122) (o := .cells #[.string ((rd_T47 l1 x16_1).f0), .string ((rd_T47 l1 x16_1).f1)] 47 (0, 0)) (by (with_reducible repeat (first | refine blk_drewN ?_ _ | refine blk_drew ?_ | refine blk_alloc ?_ _)); exact BK122.out) k_ hk)); (case aO => exact (by (with_reducible repeat (first | apply Kd.R_alloc | apply Kd.R_drewN | apply Kd.R_drew)); exact Kd.R_mono HO_6.out (fun _ hk => hk.2))); (case aS => exact (below_size (by repeat (first | (with_reducible first | exact HB.out | apply below_alloc | apply pw_below_drewN | apply below_drew1 | refine below_set ?_ GE122.out) | exact HB.out)))); (case aL => have := LMc10.out; omega); intro v125 w15 ho hb hg hat; rw [← Ny124.out] at ho; have n0_ := Aside0.mk (blk_grown (g := gb122) (o := .cells #[.string ((rd_T47 l1 x16_1).f0), .string ((rd_T47 l1 x16_1).f1)] 47 (0, 0)) (by (with_reducible repeat (first | refine blk_drewN ?_ _ | refine blk_drew ?_ | refine blk_alloc ?_ _)); exact BK122.out) hg (Kd.R_away HO_6.out (fun _ hk => hk.2))); have n1_ := Aside0.mk (hb); have n2_ := Aside0.mk (ho); clear BK122; clear HB; clear HO_6; have BK122 := n0_; have HB := n1_; have HO126 := n2_; clear n0_ n1_ n2_; clear ho hb hg hat))
                go_roundg k1
                case measure => have := HK1.out; omega
                case rel => exact ⟨(y124), (wrap64 (x16_1 + 1)), (by first | rfl | (simp; done) | (simp [*]; done)), H', ⟨by have := HK1.out; omega⟩, ⟨by (with_reducible repeat (first | apply Kd.R_alloc | apply Kd.R_drewN | apply Kd.R_drew)); exact Kd.R_mono HO126.out (fun _ hk => trivial)⟩, ⟨by repeat (first | (with_reducible first | exact HB.out | apply below_alloc | apply pw_below_drewN | apply below_drew1 | refine below_set ?_ GE122.out) | exact HB.out)⟩⟩
              · rw [if_neg c10] at H
                exact absurd H (by simp)
            · rw [if_neg c9] at H
              have c9b0 : (t123.toList == ([] : List UInt8)) = false := beq_eq_false_iff_ne.mpr c9
              have c9b1 : (t123.toList != ([] : List UInt8)) = true := bne_iff_ne.mpr c9
              by_cases c16 : (!(t123.toList == (((rd_T47 l1 x16_1).f1).toList))) = true
              · rw [if_pos c16] at H
                have c16b0 : (!(t123.toList == (((rd_T47 l1 x16_1).f1).toList))) = true := c16
                clear c16
                simp only [Option.some.injEq, Prod.mk.injEq] at H
                obtain ⟨rfl, rfl⟩ := H
                have p121 : 0 ≤ (x16_1 : Int) := of_decide_eq_true (by first | (with_reducible assumption) | assumption)
                have q121 : x16_1 < (l1.length : Int) := of_decide_eq_true (by first | (with_reducible assumption) | assumption)
                obtain ⟨ad121, e121, hx121_0, hx121_1⟩ := at_T47 HR1.out x16_1 p121 q121
                cases e121
                replace hx121_0 := (HB.out.cell (World.block_lt_of_cell? w _ hx121_0)).trans hx121_0
                replace hx121_1 := (HB.out.cell (World.block_lt_of_cell? w _ hx121_1)).trans hx121_1
                replace p121 := eq_true p121
                replace q121 := eq_true q121
                go_wp2_with (first | ((with_reducible refine gate_dst (N := 8) rfl ?_); refine box_event ?hg (N := 8) ?hd (cs := #[.string (⟨#[]⟩ : ByteArray), .string (⟨#[]⟩ : ByteArray)]) (t := 47) ?hr ?_; (case hd => rfl); (case hg => rfl); (case hr => first | (go_simp; done) | (go_simp; rfl)); intro gb122 hg w17 hbox hb; have n0_ := Aside0.mk (Kd.R_below (Kd.R_elderB (by (with_reducible repeat (first | apply Kd.R_alloc | apply Kd.R_drewN | apply Kd.R_drew)); exact HO_6.out) gb122 (Nat.le_of_eq hg.symm)) hb); have n1_ := Aside0.mk (below_step (by repeat (first | (with_reducible first | exact HB.out | apply below_alloc | apply pw_below_drewN | apply below_drew1) | exact HB.out)) hb); have n2_ := Aside0.mk (hbox); have n3_ := Aside0.mk ((by rw [hg]; exact (below_size (by repeat (first | (with_reducible first | exact HB.out | apply below_alloc | apply pw_below_drewN | apply below_drew1) | exact HB.out))) : w.heap.size ≤ gb122)); have n4_ := Aside0.mk ((by rw [hg]; exact (below_size (by repeat (first | (with_reducible first | exact HB.out | apply below_alloc | apply pw_below_drewN | apply below_drew1) | exact HB.out))) : w.heap.size ≤ gb122)); clear HO_6; clear HB; have HO_6 := n0_; have HB := n1_; have BK122 := n2_; have GW122 := n3_; have GE122 := n4_; clear n0_ n1_ n2_ n3_ n4_; clear hb hbox hg; have hcz18_0 : w17.cell? ⟨gb122, 0, none⟩ = some (.string (⟨#[]⟩ : ByteArray)) := (blk_cell BK122.out 0).trans rfl; have hcz18_1 : w17.cell? ⟨gb122, 1, none⟩ = some (.string (⟨#[]⟩ : ByteArray)) := (blk_cell BK122.out 1).trans rfl; have hfz18_0 := blk_frozen BK122.out 0; have hfz18_1 := blk_frozen BK122.out 1) | ((with_reducible refine gate_callee (f := 25) rfl ?_); refine goesL_ (some 23) rfl rfl Tryz.func25 (by kernel_rfl) rfl #[.slice A0 l0.length c0, .string ((rd_T47 l1 x16_1).f0)] rfl (by (try simp only [List.map_toArray, List.map_cons, List.map_nil]); first | done | rfl | (simp only [List.length_drop, List.length_take]; rfl)) ?_; (with_reducible refine (labels_Get.calls _ _ l0 ((rd_T47 l1 x16_1).f0) t123 _ ?side1 ?side2 A8.out).mono ?_); (case side1 => exact Kd.C_below HR0.out (by repeat (first | (with_reducible first | exact HB.out | apply below_alloc | apply pw_below_drewN | apply below_drew1 | refine below_set ?_ GE122.out) | exact HB.out))); (case side2 => exact HC0.out); rintro e w19 ⟨rfl, hb⟩; refine ⟨_, rfl, ?_⟩; have n0_ := Aside0.mk (Kd.R_below (by (with_reducible repeat (first | apply Kd.R_alloc | apply Kd.R_drewN | apply Kd.R_drew)); exact (Kd.R_mono (Kd.R_far (p := ⟨gb122, 1, none⟩) (Kd.R_far (p := ⟨gb122, 0, none⟩) (Kd.R_mono HO_6.out (fun k_ hk => (⟨hk, hk.2⟩ : _ ∧ k_ ≠ gb122))) (fun _ hk => hk.2) (.string ((rd_T47 l1 x16_1).f0))) (fun _ hk => hk.2) (.string ((rd_T47 l1 x16_1).f1))) (fun _ h_ => h_.1))) hb); have n1_ := Aside0.mk (blk_below (g := gb122) (o := .cells #[.string ((rd_T47 l1 x16_1).f0), .string ((rd_T47 l1 x16_1).f1)] 47 (0, 0)) (by (with_reducible repeat (first | refine blk_drewN ?_ _ | refine blk_drew ?_ | refine blk_alloc ?_ _)); refine blk_put (cs := #[.string ((rd_T47 l1 x16_1).f0), .string (⟨#[]⟩ : ByteArray)]) ?_ 1 _ rfl; (with_reducible repeat (first | refine blk_drewN ?_ _ | refine blk_drew ?_ | refine blk_alloc ?_ _)); refine blk_put (cs := #[.string (⟨#[]⟩ : ByteArray), .string (⟨#[]⟩ : ByteArray)]) ?_ 0 _ rfl; (with_reducible repeat (first | refine blk_drewN ?_ _ | refine blk_drew ?_ | refine blk_alloc ?_ _)); exact BK122.out) hb); have n2_ := Aside0.mk (below_step (by repeat (first | (with_reducible first | exact HB.out | apply below_alloc | apply pw_below_drewN | apply below_drew1 | refine below_set ?_ GE122.out) | exact HB.out)) hb); clear HO_6; clear BK122; clear HB; have HO_6 := n0_; have BK122 := n1_; have HB := n2_; clear n0_ n1_ n2_; (try clear hb); (try clear hb2); (try clear hk); (try clear hi); have hcz20_0 : w19.cell? ⟨gb122, 0, none⟩ = some (.string ((rd_T47 l1 x16_1).f0)) := (blk_cell BK122.out 0).trans rfl; have hcz20_1 : w19.cell? ⟨gb122, 1, none⟩ = some (.string ((rd_T47 l1 x16_1).f1)) := (blk_cell BK122.out 1).trans rfl; have hfz20_0 := blk_frozen BK122.out 0; have hfz20_1 := blk_frozen BK122.out 1))
                go_ret2
                exact ⟨_, by first | rfl | (simp [errW_none, errW_some] <;> rfl) | (simp [*, errW_none, errW_some] <;> rfl), by first | exact Kd.R_nil _ _ _ _ _ | exact Kd.N_nil _ _ _ _ _ | exact Kd.V_nil _ _ _ _ _ | exact Kd.Q_nil _ _ _ _ _ | exact Kd.S_nil _ _ _ _ _, by repeat (first | (with_reducible first | exact HB.out | apply below_alloc | apply pw_below_drewN | apply below_drew1 | refine below_set ?_ GE122.out) | exact HB.out)⟩
              · rw [if_neg c16] at H
                have c16b0 : (!(t123.toList == (((rd_T47 l1 x16_1).f1).toList))) = false := by simpa using c16
                clear c16
                have H' := Aside0.mk H
                clear H
                have p121 : 0 ≤ (x16_1 : Int) := of_decide_eq_true (by first | (with_reducible assumption) | assumption)
                have q121 : x16_1 < (l1.length : Int) := of_decide_eq_true (by first | (with_reducible assumption) | assumption)
                obtain ⟨ad121, e121, hx121_0, hx121_1⟩ := at_T47 HR1.out x16_1 p121 q121
                cases e121
                replace hx121_0 := (HB.out.cell (World.block_lt_of_cell? w _ hx121_0)).trans hx121_0
                replace hx121_1 := (HB.out.cell (World.block_lt_of_cell? w _ hx121_1)).trans hx121_1
                replace p121 := eq_true p121
                replace q121 := eq_true q121
                go_wp2_with (first | ((with_reducible refine gate_dst (N := 8) rfl ?_); refine box_event ?hg (N := 8) ?hd (cs := #[.string (⟨#[]⟩ : ByteArray), .string (⟨#[]⟩ : ByteArray)]) (t := 47) ?hr ?_; (case hd => rfl); (case hg => rfl); (case hr => first | (go_simp; done) | (go_simp; rfl)); intro gb122 hg w21 hbox hb; have n0_ := Aside0.mk (Kd.R_below (Kd.R_elderB (by (with_reducible repeat (first | apply Kd.R_alloc | apply Kd.R_drewN | apply Kd.R_drew)); exact HO_6.out) gb122 (Nat.le_of_eq hg.symm)) hb); have n1_ := Aside0.mk (below_step (by repeat (first | (with_reducible first | exact HB.out | apply below_alloc | apply pw_below_drewN | apply below_drew1) | exact HB.out)) hb); have n2_ := Aside0.mk (hbox); have n3_ := Aside0.mk ((by rw [hg]; exact (below_size (by repeat (first | (with_reducible first | exact HB.out | apply below_alloc | apply pw_below_drewN | apply below_drew1) | exact HB.out))) : w.heap.size ≤ gb122)); have n4_ := Aside0.mk ((by rw [hg]; exact (below_size (by repeat (first | (with_reducible first | exact HB.out | apply below_alloc | apply pw_below_drewN | apply below_drew1) | exact HB.out))) : w.heap.size ≤ gb122)); clear HO_6; clear HB; have HO_6 := n0_; have HB := n1_; have BK122 := n2_; have GW122 := n3_; have GE122 := n4_; clear n0_ n1_ n2_ n3_ n4_; clear hb hbox hg; have hcz22_0 : w21.cell? ⟨gb122, 0, none⟩ = some (.string (⟨#[]⟩ : ByteArray)) := (blk_cell BK122.out 0).trans rfl; have hcz22_1 : w21.cell? ⟨gb122, 1, none⟩ = some (.string (⟨#[]⟩ : ByteArray)) := (blk_cell BK122.out 1).trans rfl; have hfz22_0 := blk_frozen BK122.out 0; have hfz22_1 := blk_frozen BK122.out 1) | ((with_reducible refine gate_callee (f := 25) rfl ?_); refine goesL_ (some 23) rfl rfl Tryz.func25 (by kernel_rfl) rfl #[.slice A0 l0.length c0, .string ((rd_T47 l1 x16_1).f0)] rfl (by (try simp only [List.map_toArray, List.map_cons, List.map_nil]); first | done | rfl | (simp only [List.length_drop, List.length_take]; rfl)) ?_; (with_reducible refine (labels_Get.calls _ _ l0 ((rd_T47 l1 x16_1).f0) t123 _ ?side1 ?side2 A8.out).mono ?_); (case side1 => exact Kd.C_below HR0.out (by repeat (first | (with_reducible first | exact HB.out | apply below_alloc | apply pw_below_drewN | apply below_drew1 | refine below_set ?_ GE122.out) | exact HB.out))); (case side2 => exact HC0.out); rintro e w23 ⟨rfl, hb⟩; refine ⟨_, rfl, ?_⟩; have n0_ := Aside0.mk (Kd.R_below (by (with_reducible repeat (first | apply Kd.R_alloc | apply Kd.R_drewN | apply Kd.R_drew)); exact (Kd.R_mono (Kd.R_far (p := ⟨gb122, 1, none⟩) (Kd.R_far (p := ⟨gb122, 0, none⟩) (Kd.R_mono HO_6.out (fun k_ hk => (⟨hk, hk.2⟩ : _ ∧ k_ ≠ gb122))) (fun _ hk => hk.2) (.string ((rd_T47 l1 x16_1).f0))) (fun _ hk => hk.2) (.string ((rd_T47 l1 x16_1).f1))) (fun _ h_ => h_.1))) hb); have n1_ := Aside0.mk (blk_below (g := gb122) (o := .cells #[.string ((rd_T47 l1 x16_1).f0), .string ((rd_T47 l1 x16_1).f1)] 47 (0, 0)) (by (with_reducible repeat (first | refine blk_drewN ?_ _ | refine blk_drew ?_ | refine blk_alloc ?_ _)); refine blk_put (cs := #[.string ((rd_T47 l1 x16_1).f0), .string (⟨#[]⟩ : ByteArray)]) ?_ 1 _ rfl; (with_reducible repeat (first | refine blk_drewN ?_ _ | refine blk_drew ?_ | refine blk_alloc ?_ _)); refine blk_put (cs := #[.string (⟨#[]⟩ : ByteArray), .string (⟨#[]⟩ : ByteArray)]) ?_ 0 _ rfl; (with_reducible repeat (first | refine blk_drewN ?_ _ | refine blk_drew ?_ | refine blk_alloc ?_ _)); exact BK122.out) hb); have n2_ := Aside0.mk (below_step (by repeat (first | (with_reducible first | exact HB.out | apply below_alloc | apply pw_below_drewN | apply below_drew1 | refine below_set ?_ GE122.out) | exact HB.out)) hb); clear HO_6; clear BK122; clear HB; have HO_6 := n0_; have BK122 := n1_; have HB := n2_; clear n0_ n1_ n2_; (try clear hb); (try clear hb2); (try clear hk); (try clear hi); have hcz24_0 : w23.cell? ⟨gb122, 0, none⟩ = some (.string ((rd_T47 l1 x16_1).f0)) := (blk_cell BK122.out 0).trans rfl; have hcz24_1 : w23.cell? ⟨gb122, 1, none⟩ = some (.string ((rd_T47 l1 x16_1).f1)) := (blk_cell BK122.out 1).trans rfl; have hfz24_0 := blk_frozen BK122.out 0; have hfz24_1 := blk_frozen BK122.out 1))
                go_roundg k1
                case measure => have := HK1.out; omega
                case rel => exact ⟨(x6_1), (wrap64 (x16_1 + 1)), (by first | rfl | (simp; done) | (simp [*]; done)), H', ⟨by have := HK1.out; omega⟩, ⟨by (with_reducible repeat (first | apply Kd.R_alloc | apply Kd.R_drewN | apply Kd.R_drew)); exact Kd.R_mono HO_6.out (fun _ hk => trivial)⟩, ⟨by repeat (first | (with_reducible first | exact HB.out | apply below_alloc | apply pw_below_drewN | apply below_drew1 | refine below_set ?_ GE122.out) | exact HB.out)⟩⟩
          · rw [if_neg c7] at H
            exact absurd H (by simp)
        · rw [if_neg c6] at H
          exact absurd H (by simp)
      · rw [if_neg c5] at H
        have c5b0 : decide (x16_1 < (l1.length : Int)) = false := decide_eq_false c5
        clear c5
        replace H := Option.bind_eq_some_iff.mp H
        obtain ⟨⟨t117, t118⟩, A250, H⟩ := H
        replace H : (some (t117, (t118 == 0))) = some (r1, r2) := H
        have A25 := Aside0.mk A250
        clear A250
        simp only [Option.some.injEq, Prod.mk.injEq] at H
        obtain ⟨rfl, rfl⟩ := H
        obtain ⟨Ao26, co26, eo26⟩ := Kd.R_slice HO_6.out
        subst eo26
        go_wp2_with (first | ((with_reducible refine gate_callee (f := 12) rfl ?_); refine goesL_ (some 41) rfl rfl Tryz.func12 (by kernel_rfl) rfl #[.slice Ao26 x6_1.length co26] rfl (by (try simp only [List.map_toArray, List.map_cons, List.map_nil]); first | done | rfl | (simp only [List.length_drop, List.length_take]; rfl)) ?_; (with_reducible refine (labels_Make.calls _ _ x6_1 t117 t118 _ ?side1 ?side2 A25.out).mono ?_); (case side1 => repeat (first | exact (Kd.R_reads' HO_6.out).2.2 | (with_reducible refine Kd.C_alloc ?_ _) | (with_reducible refine Kd.C_drewN ?_ _) | (with_reducible refine Kd.C_drew ?_))); (case side2 => exact (Kd.R_reads' HO_6.out).2.1); rintro e w27 ⟨v119, rfl, ho0, hb⟩; refine ⟨_, rfl, ?_⟩; have n0_ := Aside0.mk (Kd.R_elder' (by (with_reducible repeat (first | apply Kd.R_alloc | apply Kd.R_drewN | apply Kd.R_drew)); exact HO_6.out) (Kd.R_base ho0) hb); have n1_ := Aside0.mk (Kd.R_lower (Kd.R_new' ho0 (Kd.R_lt (by (with_reducible repeat (first | apply Kd.R_alloc | apply Kd.R_drewN | apply Kd.R_drew)); exact HO_6.out))) (below_size (by repeat (first | (with_reducible first | exact HB.out | apply below_alloc | apply pw_below_drewN | apply below_drew1) | exact HB.out)))); have n2_ := Aside0.mk (below_step (by repeat (first | (with_reducible first | exact HB.out | apply below_alloc | apply pw_below_drewN | apply below_drew1) | exact HB.out)) hb); clear HO_6; clear HB; have HO_6 := n0_; have HO120 := n1_; have HB := n2_; clear n0_ n1_ n2_; (try clear hb); (try clear hb2); (try clear hk); (try clear hi); (try clear ho0)))
        go_ret2
        exact ⟨_, by first | rfl | (simp [errW_none, errW_some] <;> rfl) | (simp [*, errW_none, errW_some] <;> rfl), by (with_reducible repeat (first | apply Kd.R_alloc | apply Kd.R_drewN | apply Kd.R_drew)); exact Kd.R_mono HO120.out (fun _ hk => trivial), by repeat (first | (with_reducible first | exact HB.out | apply below_alloc | apply pw_below_drewN | apply below_drew1) | exact HB.out)⟩

end Go.Proofs.YtmhilolgjcfhjaaGreat.X

namespace Go.Proofs.YtmhilolgjcfhjaaGreat.X
open Go.RowKit Go.Proofs.YtmhilolgjcfhjaaGreatW.PrintWords Go.Proofs.YtmhilolgjcfhjaaGreatW.PrintLast Go.Proofs.YtmhilolgjcfhjaaGreatW.PrintMore
attribute [local go_sem] max2_int min2_int max_two min_two max_three min_three max_four min_four   -- for this text's walks alone
set_option linter.unusedVariables false
set_option linter.unusedSimpArgs false

/-! ### labels_With: function 28 -/
def labels_With.l0 : Nat → List (S47) → List (S47) → List ByteArray → List (S47) → Int → Int → Option ((List (S47)) × Int)
  | 0, _, _, _, _, _, _ => none
  | k + 1, x0, x1, x6, x9, x10, x11 => if x11 < x10 then (if 0 ≤ x11 then (if x11 < (x9.length : Int) then (if x6.length < 8796093022208 then (labels_With.l0 k x0 x1 (x6 ++ [(rd_T47 x9 x11).f0]) x9 x10 (wrap64 (x11 + 1))) else (none)) else (none)) else (none)) else ((slices_Clone_Label.f x1).bind fun t337 => ((labels_Without.f x0 x6).bind fun t340 => (if t337.length + t340.length < 4398046511104 then ((labels_Make.f (t337 ++ t340)).bind fun bt346 => (some (bt346.1, bt346.2))) else (none))))
def labels_With.f (k : Nat) (l0 : List (S47)) (l1 : List (S47)) : Option ((List (S47)) × Int) := labels_With.l0 k l0 l1 ([] : List ByteArray) l1 (l1.length : Int) 0
theorem labels_With.mono_l : ∀ k, (∀ y0 y1 y2 y3 y4 y5, LeO (labels_With.l0 k y0 y1 y2 y3 y4 y5) (labels_With.l0 (k + 1) y0 y1 y2 y3 y4 y5))
  | 0 => fun _ _ _ _ _ _ r h => by simp [labels_With.l0] at h
  | k + 1 => by
    have ih0 := labels_With.mono_l k
    · intro y0 y1 y2 y3 y4 y5
      unfold labels_With.l0
      repeat' first
      | (with_reducible exact ih0 _ _ _ _ _ _)
      | (with_reducible exact LeO.refl _)
      | (with_reducible exact LeO.none _)
      | (with_reducible refine LeO.ite ?_ ?_)
      | (with_reducible refine LeO.bind ?_ (fun _ => ?_))
      | exact ih0 _ _ _ _ _ _
      | exact LeO.none _
      | refine LeO.ite ?_ ?_
      | refine LeO.bind ?_ (fun _ => ?_)
theorem labels_With.mono : ∀ a0 a1 k, LeO (labels_With.f k a0 a1) (labels_With.f (k + 1) a0 a1) := by
  intro a0 a1 k
  have ih0 := labels_With.mono_l k
  unfold labels_With.f
  repeat' first
      | (with_reducible exact ih0 _ _ _ _ _ _)
      | (with_reducible exact LeO.refl _)
      | (with_reducible exact LeO.none _)
      | (with_reducible refine LeO.ite ?_ ?_)
      | (with_reducible refine LeO.bind ?_ (fun _ => ?_))
      | exact ih0 _ _ _ _ _ _
      | exact LeO.none _
      | refine LeO.ite ?_ ?_
      | refine LeO.bind ?_ (fun _ => ?_)
set_option maxHeartbeats 8000000 in
set_option maxRecDepth 100000 in
theorem labels_With.calls (k : Nat) (A0 : Option Addr) (c0 : Nat) (l0 : List (S47)) (A1 : Option Addr) (c1 : Nat) (l1 : List (S47)) (r1 : List (S47)) (r2 : Int) (w : World) (hr0 : Kd.C k47 w A0 l0.length l0) (hc0 : l0.length ≤ c0) (hr1 : Kd.C k47 w A1 l1.length l1) (hc1 : l1.length ≤ c1) (h : labels_With.f k l0 l1 = some (r1, r2)) :
    Calls Tryz.prog 28 #[.slice A0 l0.length c0, .slice A1 l1.length c1] w fun e w' => ∃ v0_ : Value, e = .returned (.tuple #[v0_, .int .i64 r2]) ∧ Kd.R k47 47 w' w.heap.size (fun _ => True) v0_ r1 ∧ Below w.heap.size w w' := by
  have hu47 := Tryz.underlying47
  have HR0 := Aside0.mk hr0
  have HC0 := Aside0.mk hc0
  clear hr0 hc0
  have HR1 := Aside0.mk hr1
  have HC1 := Aside0.mk hc1
  clear hr1 hc1
  have HB := Aside0.mk (Below.refl w.heap.size w)
  have H : (labels_With.l0 k l0 l1 ([] : List ByteArray) l1 (l1.length : Int) 0) = some (r1, r2) := h
  clear h
  have H' := Aside0.mk H
  clear H
  go_enter Tryz.func28, Tryz.ntmps28
  go_wp2
  go_loopg [6, 11] k (fun kq v6 v11 w' => ∃ (x6_1 : List ByteArray) (x11_1 : Int), v11 = .int .i64 x11_1 ∧ Aside0 (labels_With.l0 kq l0 l1 x6_1 l1 (l1.length : Int) x11_1 = some (r1, r2)) ∧ Aside0 (kq ≤ k) ∧ Aside0 (Kd.R Kd.string 9 w' w.heap.size (fun _ => True) v6 x6_1) ∧ Aside0 (Below w.heap.size w w'))
  case atStart => exact ⟨(([] : List ByteArray)), (0), (by first | rfl | (simp; done) | (simp [*]; done)), H', ⟨Nat.le_refl _⟩, ⟨by first | exact Kd.R_nil _ _ _ _ _ | exact Kd.N_nil _ _ _ _ _ | exact Kd.V_nil _ _ _ _ _ | exact Kd.Q_nil _ _ _ _ _ | exact Kd.S_nil _ _ _ _ _⟩, ⟨by repeat (first | (with_reducible first | exact HB.out | apply below_alloc | apply pw_below_drewN | apply below_drew1) | exact HB.out)⟩⟩
  case round =>
    clear H'
    try clear c1
    try clear c2
    try clear p2
    obtain ⟨x6_1, x11_1, rfl, HA, HK1, HO_6, HB⟩ := hrel
    cases gk with
    | zero => exact absurd HA.out (by simp [labels_With.l0])
    | succ k1 =>
      have H := HA.out
      clear HA
      simp only [labels_With.l0] at H
      by_cases c3 : x11_1 < (l1.length : Int)
      · rw [if_pos c3] at H
        have c3b0 : decide (x11_1 < (l1.length : Int)) = true := decide_eq_true c3
        clear c3
        by_cases c4 : 0 ≤ x11_1
        · rw [if_pos c4] at H
          have c4b0 : decide (0 ≤ x11_1) = true := decide_eq_true c4
          clear c4
          by_cases c5 : x11_1 < (l1.length : Int)
          · rw [if_pos c5] at H
            have c5b0 : decide (x11_1 < (l1.length : Int)) = true := decide_eq_true c5
            clear c5
            by_cases c6 : x6_1.length < 8796093022208
            · rw [if_pos c6] at H
              have LMc6 := Aside0.mk c6
              clear c6
              obtain ⟨y334, hy334⟩ : ∃ y_ : List ByteArray, y_ = (x6_1 ++ [(rd_T47 l1 x11_1).f0]) := ⟨_, rfl⟩
              replace H : (labels_With.l0 k1 l0 l1 y334 l1 (l1.length : Int) (wrap64 (x11_1 + 1))) = some (r1, r2) := by first | (rw [hy334]; with_reducible exact H) | (have H2_ := (Option.bind_some _ _).symm.trans H; rw [hy334]; with_reducible exact H2_) | (have H2_ := (Option.bind_some _ _).symm.trans H; with_reducible exact H2_) | with_reducible exact H | (rw [hy334]; exact H) | exact H
              have Ny334 := Aside0.mk hy334
              clear hy334
              have H' := Aside0.mk H
              clear H
              have p332 : 0 ≤ (x11_1 : Int) := of_decide_eq_true (by first | (with_reducible assumption) | assumption)
              have q332 : x11_1 < (l1.length : Int) := of_decide_eq_true (by first | (with_reducible assumption) | assumption)
              obtain ⟨ad332, e332, hx332_0, hx332_1⟩ := at_T47 HR1.out x11_1 p332 q332
              cases e332
              replace hx332_0 := (HB.out.cell (World.block_lt_of_cell? w _ hx332_0)).trans hx332_0
              replace hx332_1 := (HB.out.cell (World.block_lt_of_cell? w _ hx332_1)).trans hx332_1
              replace p332 := eq_true p332
              replace q332 := eq_true q332
              go_wp2_with (first | ((with_reducible refine gate_dst (N := 8) rfl ?_); refine box_event ?hg (N := 8) ?hd (cs := #[.string (⟨#[]⟩ : ByteArray), .string (⟨#[]⟩ : ByteArray)]) (t := 47) ?hr ?_; (case hd => rfl); (case hg => rfl); (case hr => first | (go_simp; done) | (go_simp; rfl)); intro gb333 hg w7 hbox hb; have n0_ := Aside0.mk (Kd.R_below (by (with_reducible repeat (first | apply Kd.R_alloc | apply Kd.R_drewN | apply Kd.R_drew)); exact HO_6.out) hb); have n1_ := Aside0.mk (below_step (by repeat (first | (with_reducible first | exact HB.out | apply below_alloc | apply pw_below_drewN | apply below_drew1) | exact HB.out)) hb); have n2_ := Aside0.mk (hbox); have n3_ := Aside0.mk ((by rw [hg]; exact (below_size (by repeat (first | (with_reducible first | exact HB.out | apply below_alloc | apply pw_below_drewN | apply below_drew1) | exact HB.out))) : w.heap.size ≤ gb333)); have n4_ := Aside0.mk ((by rw [hg]; exact (below_size (by repeat (first | (with_reducible first | exact HB.out | apply below_alloc | apply pw_below_drewN | apply below_drew1) | exact HB.out))) : w.heap.size ≤ gb333)); clear HO_6; clear HB; have HO_6 := n0_; have HB := n1_; have BK333 := n2_; have GW333 := n3_; have GE333 := n4_; clear n0_ n1_ n2_ n3_ n4_; clear hb hbox hg; have hcz8_0 : w7.cell? ⟨gb333, 0, none⟩ = some (.string (⟨#[]⟩ : ByteArray)) := (blk_cell BK333.out 0).trans rfl; have hcz8_1 : w7.cell? ⟨gb333, 1, none⟩ = some (.string (⟨#[]⟩ : ByteArray)) := (blk_cell BK333.out 1).trans rfl; have hfz8_0 := blk_frozen BK333.out 0; have hfz8_1 := blk_frozen BK333.out 1) | ((with_reducible refine gate_builtin (b := .append) (xs := #[.tmp 15, .tmp 18]) rfl ?_); at_builtin; refine Kd.R_append Kd.string (w0 := w) w.heap.size rfl (.tmp 15) (.tmp 18) 41 9 (.string ⟨#[]⟩) 16 rfl Tryz.underlying41 info9 rfl (by decide) (by omega) u6 x6_1 ((rd_T47 l1 x11_1).f0) [.string ((rd_T47 l1 x11_1).f0)] (fun _ => True) (fun _ => False) rfl (by first | (go_simp; done) | (go_simp; rfl)) ?aP (fun _ hk => hk.elim) ?aF ?aO ?aB ?aS ?aL ?_; (case aP => exact rfl); (case aB => exact (by repeat (first | (with_reducible first | exact HB.out | apply below_alloc | apply pw_below_drewN | apply below_drew1 | refine below_set ?_ GE333.out) | exact HB.out))); (case aF => exact (fun _ _ => trivial)); (case aO => exact (by (with_reducible repeat (first | apply Kd.R_alloc | apply Kd.R_drewN | apply Kd.R_drew)); exact Kd.R_mono (Kd.R_far (p := ⟨gb333, 1, none⟩) (Kd.R_far (p := ⟨gb333, 0, none⟩) (Kd.R_types HO_6.out BK333.out (by decide)) (fun _ hk => hk.2) (.string ((rd_T47 l1 x11_1).f0))) (fun _ hk => hk.2) (.string ((rd_T47 l1 x11_1).f1))) (fun _ hk => trivial))); (case aS => exact (below_size (by repeat (first | (with_reducible first | exact HB.out | apply below_alloc | apply pw_below_drewN | apply below_drew1 | refine below_set ?_ GE333.out) | exact HB.out)))); (case aL => have := LMc6.out; omega); intro v335 w9 ho hb hg hat; rw [← Ny334.out] at ho; have n0_ := Aside0.mk (blk_grown (g := gb333) (o := .cells #[.string ((rd_T47 l1 x11_1).f0), .string ((rd_T47 l1 x11_1).f1)] 47 (0, 0)) (by (with_reducible repeat (first | refine blk_drewN ?_ _ | refine blk_drew ?_ | refine blk_alloc ?_ _)); refine blk_put (cs := #[.string ((rd_T47 l1 x11_1).f0), .string (⟨#[]⟩ : ByteArray)]) ?_ 1 _ rfl; (with_reducible repeat (first | refine blk_drewN ?_ _ | refine blk_drew ?_ | refine blk_alloc ?_ _)); refine blk_put (cs := #[.string (⟨#[]⟩ : ByteArray), .string (⟨#[]⟩ : ByteArray)]) ?_ 0 _ rfl; (with_reducible repeat (first | refine blk_drewN ?_ _ | refine blk_drew ?_ | refine blk_alloc ?_ _)); exact BK333.out) hg (Kd.R_ne HO_6.out BK333.out (by decide))); have n1_ := Aside0.mk (hb); have n2_ := Aside0.mk (ho); clear BK333; clear HB; clear HO_6; have BK333 := n0_; have HB := n1_; have HO336 := n2_; clear n0_ n1_ n2_; clear ho hb hg hat))
              go_roundg k1
              case measure => have := HK1.out; omega
              case rel => exact ⟨(y334), (wrap64 (x11_1 + 1)), (by first | rfl | (simp; done) | (simp [*]; done)), H', ⟨by have := HK1.out; omega⟩, ⟨by (with_reducible repeat (first | apply Kd.R_alloc | apply Kd.R_drewN | apply Kd.R_drew)); exact HO336.out⟩, ⟨by repeat (first | (with_reducible first | exact HB.out | apply below_alloc | apply pw_below_drewN | apply below_drew1 | refine below_set ?_ GE333.out) | exact HB.out)⟩⟩
            · rw [if_neg c6] at H
              exact absurd H (by simp)
          · rw [if_neg c5] at H
            exact absurd H (by simp)
        · rw [if_neg c4] at H
          exact absurd H (by simp)
      · rw [if_neg c3] at H
        have c3b0 : decide (x11_1 < (l1.length : Int)) = false := decide_eq_false c3
        clear c3
        replace H := Option.bind_eq_some_iff.mp H
        obtain ⟨t337, A100, H⟩ := H
        replace H : ((labels_Without.f l0 x6_1).bind fun t340 => (if t337.length + t340.length < 4398046511104 then ((labels_Make.f (t337 ++ t340)).bind fun bt346 => (some (bt346.1, bt346.2))) else (none))) = some (r1, r2) := H
        have A10 := Aside0.mk A100
        clear A100
        replace H := Option.bind_eq_some_iff.mp H
        obtain ⟨t340, A110, H⟩ := H
        replace H : (if t337.length + t340.length < 4398046511104 then ((labels_Make.f (t337 ++ t340)).bind fun bt346 => (some (bt346.1, bt346.2))) else (none)) = some (r1, r2) := H
        have A11 := Aside0.mk A110
        clear A110
        by_cases c12 : t337.length + t340.length < 4398046511104
        · rw [if_pos c12] at H
          have LMc12 := Aside0.mk c12
          clear c12
          obtain ⟨y343, hy343⟩ : ∃ y_ : List (S47), y_ = (t337 ++ t340) := ⟨_, rfl⟩
          replace H : ((labels_Make.f y343).bind fun bt346 => (some (bt346.1, bt346.2))) = some (r1, r2) := by first | (rw [hy343]; with_reducible exact H) | (have H2_ := (Option.bind_some _ _).symm.trans H; rw [hy343]; with_reducible exact H2_) | (have H2_ := (Option.bind_some _ _).symm.trans H; with_reducible exact H2_) | with_reducible exact H | (rw [hy343]; exact H) | exact H
          have Ny343 := Aside0.mk hy343
          clear hy343
          replace H := Option.bind_eq_some_iff.mp H
          obtain ⟨⟨t346, t347⟩, A130, H⟩ := H
          replace H : (some (t346, t347)) = some (r1, r2) := H
          have A13 := Aside0.mk A130
          clear A130
          simp only [Option.some.injEq, Prod.mk.injEq] at H
          obtain ⟨rfl, rfl⟩ := H
          go_wp2_with (first | ((with_reducible refine gate_callee (f := 39) rfl ?_); refine goesL_ (some 22) rfl rfl Tryz.func39 (by kernel_rfl) rfl #[.slice A1 l1.length c1] rfl (by (try simp only [List.map_toArray, List.map_cons, List.map_nil]); first | done | rfl | (simp only [List.length_drop, List.length_take]; rfl)) ?_; (with_reducible refine (slices_Clone_Label.calls _ _ l1 t337 _ ?side1 ?side2 A10.out).mono ?_); (case side1 => repeat (first | exact (Kd.C_below HR1.out HB.out) | (with_reducible refine Kd.C_alloc ?_ _) | (with_reducible refine Kd.C_drewN ?_ _) | (with_reducible refine Kd.C_drew ?_))); (case side2 => exact HC1.out); rintro e w14 ⟨v338, rfl, ho0, hb⟩; refine ⟨_, rfl, ?_⟩; have n0_ := Aside0.mk (Kd.R_below (by (with_reducible repeat (first | apply Kd.R_alloc | apply Kd.R_drewN | apply Kd.R_drew)); exact HO_6.out) hb); have n1_ := Aside0.mk (Kd.R_lower ho0 (below_size (by repeat (first | (with_reducible first | exact HB.out | apply below_alloc | apply pw_below_drewN | apply below_drew1) | exact HB.out)))); have n2_ := Aside0.mk (below_step (by repeat (first | (with_reducible first | exact HB.out | apply below_alloc | apply pw_below_drewN | apply below_drew1) | exact HB.out)) hb); clear HO_6; clear HB; have HO_6 := n0_; have HO339 := n1_; have HB := n2_; clear n0_ n1_ n2_; (try clear hb); (try clear hb2); (try clear hk); (try clear hi); (try clear ho0); obtain ⟨Ao15, co15, eo15⟩ := Kd.R_slice HO_6.out; subst eo15) | ((with_reducible refine gate_callee (f := 24) rfl ?_); refine goesL_ (some 25) rfl rfl Tryz.func24 (by kernel_rfl) rfl #[.slice A0 l0.length c0, .slice Ao15 x6_1.length co15] rfl (by (try simp only [List.map_toArray, List.map_cons, List.map_nil]); first | done | rfl | (simp only [List.length_drop, List.length_take]; rfl)) ?_; (with_reducible refine (labels_Without.calls _ _ l0 _ _ x6_1 t340 _ ?side1 ?side2 ?side3 ?side4 A11.out).mono ?_); (case side1 => repeat (first | exact (Kd.C_below HR0.out HB.out) | (with_reducible refine Kd.C_alloc ?_ _) | (with_reducible refine Kd.C_drewN ?_ _) | (with_reducible refine Kd.C_drew ?_))); (case side2 => exact HC0.out); (case side3 => repeat (first | exact (Kd.R_reads' HO_6.out).2.2 | (with_reducible refine Kd.C_alloc ?_ _) | (with_reducible refine Kd.C_drewN ?_ _) | (with_reducible refine Kd.C_drew ?_))); (case side4 => exact (Kd.R_reads' HO_6.out).2.1); rintro e w16 ⟨v341, rfl, ho0, hb⟩; refine ⟨_, rfl, ?_⟩; have n0_ := Aside0.mk (Kd.R_below (by (with_reducible repeat (first | apply Kd.R_alloc | apply Kd.R_drewN | apply Kd.R_drew)); exact HO_6.out) hb); have n1_ := Aside0.mk (Kd.R_elder' (by (with_reducible repeat (first | apply Kd.R_alloc | apply Kd.R_drewN | apply Kd.R_drew)); exact HO339.out) (Kd.R_base ho0) hb); have n2_ := Aside0.mk (Kd.R_lower (Kd.R_new' ho0 (Kd.R_lt (by (with_reducible repeat (first | apply Kd.R_alloc | apply Kd.R_drewN | apply Kd.R_drew)); exact HO339.out))) (below_size (by repeat (first | (with_reducible first | exact HB.out | apply below_alloc | apply pw_below_drewN | apply below_drew1) | exact HB.out)))); have n3_ := Aside0.mk (below_step (by repeat (first | (with_reducible first | exact HB.out | apply below_alloc | apply pw_below_drewN | apply below_drew1) | exact HB.out)) hb); clear HO_6; clear HO339; clear HB; have HO_6 := n0_; have HO339 := n1_; have HO342 := n2_; have HB := n3_; clear n0_ n1_ n2_ n3_; (try clear hb); (try clear hb2); (try clear hk); (try clear hi); (try clear ho0); obtain ⟨Ao18, co18, eo18⟩ := Kd.R_slice HO342.out; subst eo18) | ((with_reducible refine gate_builtin (b := .append) (xs := #[.tmp 22, .tmp 25]) rfl ?_); at_builtin; refine Kd.R_append_rows k47 (w0 := w) w.heap.size rfl (.tmp 22) (.tmp 25) 22 47 (.agg #[(.string ⟨#[]⟩), (.string ⟨#[]⟩)]) 32 rfl Tryz.underlying22 info47 rfl (by decide) (by omega) v338 t337 t340 _ _ _ (fun k_ => some k_ ≠ (.slice Ao18 t340.length co18 : Value).ownBlock) (fun _ => False) rfl rfl ?aO ?aR (fun _ _ h => h) (fun _ h => h.elim) ?aF ?aB ?aS ?aL ?_; (case aR => repeat (first | exact (Kd.R_reads' HO342.out).2.2 | (with_reducible refine Kd.C_alloc ?_ _) | (with_reducible refine Kd.C_drewN ?_ _) | (with_reducible refine Kd.C_drew ?_))); (case aB => exact (by repeat (first | (with_reducible first | exact HB.out | apply below_alloc | apply pw_below_drewN | apply below_drew1) | exact HB.out))); (case aF => exact (fun k_ hk => Kd.fresh' (Kd.R_lt (by (with_reducible repeat (first | apply Kd.R_alloc | apply Kd.R_drewN | apply Kd.R_drew)); exact HO342.out)) k_ hk)); (case aO => exact (by (with_reducible repeat (first | apply Kd.R_alloc | apply Kd.R_drewN | apply Kd.R_drew)); exact Kd.R_mono HO339.out (fun _ hk => hk.2))); (case aS => exact (below_size (by repeat (first | (with_reducible first | exact HB.out | apply below_alloc | apply pw_below_drewN | apply below_drew1) | exact HB.out)))); (case aL => have := LMc12.out; omega); intro v344 w17 ho hb hg hat; rw [← Ny343.out] at ho; have n0_ := Aside0.mk (Kd.R_over' (by (with_reducible repeat (first | apply Kd.R_alloc | apply Kd.R_drewN | apply Kd.R_drew)); exact HO_6.out) (Kd.R_typed (by (with_reducible repeat (first | apply Kd.R_alloc | apply Kd.R_drewN | apply Kd.R_drew)); exact HO339.out)) (by decide) hg); have n1_ := Aside0.mk (Kd.R_after (ok := (fun _ => True)) (by (with_reducible repeat (first | apply Kd.R_alloc | apply Kd.R_drewN | apply Kd.R_drew)); exact HO342.out) hg hat); have n2_ := Aside0.mk (hb); have n3_ := Aside0.mk (ho); clear HO_6; clear HO342; clear HB; clear HO339; have HO_6 := n0_; have HO342 := n1_; have HB := n2_; have HO345 := n3_; clear n0_ n1_ n2_ n3_; clear ho hb hg hat; obtain ⟨Ao19, co19, eo19⟩ := Kd.R_slice HO345.out; subst eo19) | ((with_reducible refine gate_callee (f := 12) rfl ?_); refine goesL_ (some 27) rfl rfl Tryz.func12 (by kernel_rfl) rfl #[.slice Ao19 y343.length co19] rfl (by (try simp only [List.map_toArray, List.map_cons, List.map_nil]); first | done | rfl | (simp only [List.length_drop, List.length_take]; rfl)) ?_; (with_reducible refine (labels_Make.calls _ _ y343 t346 t347 _ ?side1 ?side2 A13.out).mono ?_); (case side1 => repeat (first | exact (Kd.R_reads' HO345.out).2.2 | (with_reducible refine Kd.C_alloc ?_ _) | (with_reducible refine Kd.C_drewN ?_ _) | (with_reducible refine Kd.C_drew ?_))); (case side2 => exact (Kd.R_reads' HO345.out).2.1); rintro e w20 ⟨v348, rfl, ho0, hb⟩; refine ⟨_, rfl, ?_⟩; have n0_ := Aside0.mk (Kd.R_below (by (with_reducible repeat (first | apply Kd.R_alloc | apply Kd.R_drewN | apply Kd.R_drew)); exact HO_6.out) hb); have n1_ := Aside0.mk (Kd.R_elder' (by (with_reducible repeat (first | apply Kd.R_alloc | apply Kd.R_drewN | apply Kd.R_drew)); exact HO342.out) (Kd.R_base ho0) hb); have n2_ := Aside0.mk (Kd.R_elder' (by (with_reducible repeat (first | apply Kd.R_alloc | apply Kd.R_drewN | apply Kd.R_drew)); exact HO345.out) (Kd.R_base ho0) hb); have n3_ := Aside0.mk (Kd.R_lower (Kd.R_new' (Kd.R_new' ho0 (Kd.R_lt (by (with_reducible repeat (first | apply Kd.R_alloc | apply Kd.R_drewN | apply Kd.R_drew)); exact HO342.out))) (Kd.R_lt (by (with_reducible repeat (first | apply Kd.R_alloc | apply Kd.R_drewN | apply Kd.R_drew)); exact HO345.out))) (below_size (by repeat (first | (with_reducible first | exact HB.out | apply below_alloc | apply pw_below_drewN | apply below_drew1) | exact HB.out)))); have n4_ := Aside0.mk (below_step (by repeat (first | (with_reducible first | exact HB.out | apply below_alloc | apply pw_below_drewN | apply below_drew1) | exact HB.out)) hb); clear HO_6; clear HO342; clear HO345; clear HB; have HO_6 := n0_; have HO342 := n1_; have HO345 := n2_; have HO349 := n3_; have HB := n4_; clear n0_ n1_ n2_ n3_ n4_; (try clear hb); (try clear hb2); (try clear hk); (try clear hi); (try clear ho0)))
          go_ret2
          exact ⟨_, by first | rfl | (simp [errW_none, errW_some] <;> rfl) | (simp [*, errW_none, errW_some] <;> rfl), by (with_reducible repeat (first | apply Kd.R_alloc | apply Kd.R_drewN | apply Kd.R_drew)); exact Kd.R_mono HO349.out (fun _ hk => trivial), by repeat (first | (with_reducible first | exact HB.out | apply below_alloc | apply pw_below_drewN | apply below_drew1) | exact HB.out)⟩
        · rw [if_neg c12] at H
          exact absurd H (by simp)

end Go.Proofs.YtmhilolgjcfhjaaGreat.X

/- What Join and With of labels answer, in plain Lean; and the key's bytes. -/
namespace Go.Proofs.YtmhilolgjcfhjaaGreat.X
open Go.RowKit Go.Proofs.YtmhilolgjcfhjaaGreatW.PrintWords Go.Proofs.YtmhilolgjcfhjaaGreatW.PrintLast Go.Proofs.YtmhilolgjcfhjaaGreatW.PrintMore

/-- Names that the machine can take. -/
def NamesFit (l : List S47) : Prop := ∀ x ∈ l, x.f0.size ≤ 4611686018427387904
theorem IsSet.names {l : List S47} (h : IsSet l) : NamesFit l := h.fits.2
theorem make_f {l : List S47} (h1 : l.length ≤ 1000000) (h2 : NamesFit l) : labels_Make.f l = some (makeB l) := by
  unfold labels_Make.f; rw [if_pos ⟨by omega, h2⟩]
theorem get_f {l : List S47} (h1 : l.length ≤ 1000000) (n : ByteArray) : labels_Get.f l n = some (getB l n) := by
  unfold labels_Get.f; rw [if_pos (by omega)]
theorem clone_f {l : List S47} (h1 : l.length ≤ 1000000) : slices_Clone_Label.f l = some l := by
  unfold slices_Clone_Label.f; rw [if_pos (by omega)]
theorem set_f {l : List S47} (h : fits47 l) : klaxonref09_Set.f l = some (setB l) := by
  unfold klaxonref09_Set.f; rw [if_pos h]

def joinFrom (a : List S47) : List S47 → List S47 → List S47 × Bool
  | acc, [] => ((makeB acc).1, (makeB acc).2 == 0)
  | acc, x :: r => if getB a x.f0 = ⟨#[]⟩ then joinFrom a (acc ++ [x]) r else if getB a x.f0 = x.f1 then joinFrom a acc r else ([], false)
def joinB (a b : List S47) : List S47 × Bool := joinFrom a a b
theorem nil_iff (s : ByteArray) : s.toList = ([] : List UInt8) ↔ s = ⟨#[]⟩ := lit_iff s []

theorem join_l0 (a b : List S47) (ha : a.length ≤ 1000000) (hb : b.length ≤ 100000) (nb : NamesFit b) : ∀ d i : Nat, ∀ acc : List S47, i + d = b.length → acc.length + d ≤ 1000000 → NamesFit acc →
    Ev (fun k => labels_Join.l0 k a acc b b.length i) (joinFrom a acc (b.drop i))
  | 0, i, acc, h, hc, hn => by
    refine Ev.step (fun k => by rw [labels_Join.l0]) (Ev.ifn (by omega) ?_)
    rw [List.drop_eq_nil_of_le (by omega), make_f (by omega) hn]
    exact Ev.now _
  | d + 1, i, acc, h, hc, hn => by
    have hx : (rd_T47 b i).f0.size ≤ 4611686018427387904 := by rw [rd47_at b i (by omega)]; exact nb _ (List.getElem_mem _)
    refine Ev.step (fun k => by rw [labels_Join.l0]) (Ev.ifp (by omega) (Ev.ifp (by omega) (Ev.ifp (by omega) ?_)))
    rw [get_f ha]
    refine Ev.bind (Ev.now _) ?_
    rw [drop47 b i (by omega), joinFrom, wrap_up i (by omega)]
    by_cases c : getB a (rd_T47 b i).f0 = ⟨#[]⟩
    · rw [if_pos c]
      refine Ev.ifp ((nil_iff _).2 c) (Ev.ifp (by omega) ?_)
      exact join_l0 a b ha hb nb d (i + 1) (acc ++ [rd_T47 b i]) (by omega) (by rw [List.length_append]; simp; omega) (fun x hx' => by
        rcases List.mem_append.1 hx' with hx' | hx'
        · exact hn x hx'
        · rw [List.mem_singleton.1 hx']; exact hx)
    · rw [if_neg c]
      refine Ev.ifn (fun q => c ((nil_iff _).1 q)) ?_
      by_cases c2 : getB a (rd_T47 b i).f0 = (rd_T47 b i).f1
      · rw [if_pos c2]
        refine Ev.ifn (by rw [eqL, decide_eq_true c2]; simp) ?_
        exact join_l0 a b ha hb nb d (i + 1) acc (by omega) (by omega) hn
      · rw [if_neg c2]
        refine Ev.ifp (by rw [eqL, decide_eq_false c2]; rfl) ?_
        exact Ev.now _
theorem join_ev (a b : List S47) (ha : a.length ≤ 100000) (hb : b.length ≤ 100000) (na : NamesFit a) (nb : NamesFit b) : Ev (fun k => labels_Join.f k a b) (joinB a b) := by
  unfold labels_Join.f
  rw [clone_f (by omega)]
  refine Ev.bind (Ev.now _) ?_
  have := join_l0 a b (by omega) hb nb b.length 0 a (by omega) (by omega) na
  rw [List.drop_zero] at this
  exact this

def withB (l more : List S47) : List S47 × Int := makeB (more ++ withoutB l (more.map (·.f0)))
theorem with_l0 (l more : List S47) (hl : l.length ≤ 100000) (hm : more.length ≤ 100000) (nl : NamesFit l) (nm : NamesFit more) : ∀ d i : Nat, i + d = more.length →
    Ev (fun k => labels_With.l0 k l more ((more.take i).map (·.f0)) more more.length i) (withB l more)
  | 0, i, h => by
    refine Ev.step (fun k => by rw [labels_With.l0]) (Ev.ifn (by omega) ?_)
    rw [List.take_of_length_le (by omega), clone_f (by omega)]
    have hw : labels_Without.f l (more.map (·.f0)) = some (withoutB l (more.map (·.f0))) := by
      unfold labels_Without.f; rw [if_pos ⟨by omega, by rw [List.length_map]; omega⟩]
    rw [hw]
    have hlen : (withoutB l (more.map (·.f0))).length ≤ l.length := List.length_filter_le _ _
    refine Ev.bind (Ev.now _) (Ev.bind (Ev.now _) (Ev.ifp (by omega) ?_))
    rw [make_f (by rw [List.length_append]; omega) (fun x hx => by
      rcases List.mem_append.1 hx with hx | hx
      · exact nm x hx
      · exact nl x (List.mem_filter.1 hx).1)]
    exact Ev.now _
  | d + 1, i, h => by
    have ih := with_l0 l more hl hm nl nm d (i + 1) (by omega)
    refine Ev.step (fun k => by rw [labels_With.l0]) (Ev.ifp (by omega) (Ev.ifp (by omega) (Ev.ifp (by omega) (Ev.ifp (by rw [List.length_map, List.length_take]; omega) ?_))))
    rw [wrap_up i (by omega), rd47_at more i (by omega), show (more.take i).map (·.f0) ++ [more[i].f0] = (more.take (i + 1)).map (·.f0) by rw [List.take_succ_eq_append_getElem (by omega), List.map_append]; rfl]
    exact ih
theorem with_ev (l more : List S47) (hl : l.length ≤ 100000) (hm : more.length ≤ 100000) (nl : NamesFit l) (nm : NamesFit more) : Ev (fun k => labels_With.f k l more) (withB l more) := by
  unfold labels_With.f
  have := with_l0 l more hl hm nl nm more.length 0 (by omega)
  rw [List.take_zero] at this
  exact this

/-! ### The key's bytes -/
def entL (x : S47) : List UInt8 := x.f0.data.toList ++ [61, 34] ++ escL x.f1.data.toList ++ [34]
def keyL (l : List S47) : List UInt8 := 123 :: (Lib.join (l.map entL) [44] ++ [125])
theorem entS_data (x : S47) : (entS x).data.toList = entL x := by
  unfold entS entL escB
  simp [ByteArray.data_append]
theorem keyB_list (l : List S47) : (keyB l).toList = keyL l := by
  rw [ByteArray.toList_eq]
  unfold keyB keyL
  rw [List.map_map, show ((fun x : ByteArray => x.data.toList) ∘ entS) = entL from funext entS_data]
  simp [ByteArray.data_append]
theorem IsSet.fitsKey {l : List S47} (h : IsSet l) : fitsKey l := ⟨by have := h.few; omega, fun x hx => by have := good_sizes x (h.good x hx); omega⟩
theorem key_f {l : List S47} (h : IsSet l) : labels_Key.f l = some (keyB l) := by
  unfold labels_Key.f; rw [if_pos h.fitsKey]
end Go.Proofs.YtmhilolgjcfhjaaGreat.X

/- Join and With over sets, in plain Lean. -/
namespace Go.Proofs.YtmhilolgjcfhjaaGreat.X
open Go.RowKit Go.Proofs.YtmhilolgjcfhjaaGreatW.PrintWords Go.Proofs.YtmhilolgjcfhjaaGreatW.PrintLast Go.Proofs.YtmhilolgjcfhjaaGreatW.PrintMore

def Agree (a b : List S47) : Prop := ∀ x ∈ a, ∀ y ∈ b, x.f0 = y.f0 → x.f1 = y.f1
theorem Agree.swap {a b : List S47} (h : Agree a b) : Agree b a := fun x hx y hy e => (h y hy x hx e.symm).symm
def newB (a : List S47) (x : S47) : Bool := decide (getB a x.f0 = ⟨#[]⟩)
def joinU (a b : List S47) : List S47 := a ++ b.filter (newB a)
theorem joinFrom_ok (a : List S47) : ∀ (r acc : List S47), (∀ x ∈ r, getB a x.f0 = ⟨#[]⟩ ∨ getB a x.f0 = x.f1) → joinFrom a acc r = ((makeB (acc ++ r.filter (newB a))).1, (makeB (acc ++ r.filter (newB a))).2 == 0)
  | [], acc, _ => by rw [joinFrom, List.filter_nil, List.append_nil]
  | x :: r, acc, h => by
    have hr := fun y hy => h y (List.mem_cons_of_mem _ hy)
    rw [joinFrom]
    by_cases c : getB a x.f0 = ⟨#[]⟩
    · rw [if_pos c, joinFrom_ok a r _ hr, List.filter_cons_of_pos (show newB a x = true from decide_eq_true c), List.append_assoc]
      rfl
    · rw [if_neg c, if_pos ((h x List.mem_cons_self).resolve_left c), joinFrom_ok a r _ hr, List.filter_cons_of_neg (show ¬ newB a x = true from fun q => c (of_decide_eq_true q))]
theorem joinFrom_no (a : List S47) : ∀ (r acc : List S47), (∃ x ∈ r, getB a x.f0 ≠ ⟨#[]⟩ ∧ getB a x.f0 ≠ x.f1) → joinFrom a acc r = ([], false)
  | [], acc, ⟨x, hx, _⟩ => by cases hx
  | x :: r, acc, ⟨y, hy, h1, h2⟩ => by
    rw [joinFrom]
    by_cases c : getB a x.f0 = ⟨#[]⟩
    · rw [if_pos c]
      rcases List.mem_cons.1 hy with rfl | hy
      · exact absurd c h1
      · exact joinFrom_no a r _ ⟨y, hy, h1, h2⟩
    · rw [if_neg c]
      by_cases c2 : getB a x.f0 = x.f1
      · rw [if_pos c2]
        rcases List.mem_cons.1 hy with rfl | hy
        · exact absurd c2 h2
        · exact joinFrom_no a r _ ⟨y, hy, h1, h2⟩
      · rw [if_neg c2]
theorem joinU_mem {a b : List S47} (hab : Agree a b) (x : S47) : x ∈ joinU a b ↔ x ∈ a ∨ x ∈ b := by
  unfold joinU
  rw [List.mem_append, List.mem_filter]
  constructor
  · rintro (h | h)
    · exact .inl h
    · exact .inr h.1
  · rintro (h | h)
    · exact .inl h
    · by_cases c : getB a x.f0 = ⟨#[]⟩
      · exact .inr ⟨h, decide_eq_true c⟩
      · obtain ⟨y, hy, e, _⟩ := getB_in c
        have : y = x := (s47_ext y x).2 ⟨e, hab y hy x h e⟩
        exact .inl (this ▸ hy)
theorem joinU_nodup {a b : List S47} (ha : IsSet a) (hb : IsSet b) : ((joinU a b).map (·.f0)).Nodup := by
  unfold joinU
  refine nodup_app ha.nodup (filter_set hb _).nodup (fun x hx y hy => ?_)
  have hy := of_decide_eq_true (List.mem_filter.1 hy).2
  exact (getB_empty ha.good ha.nodup _).1 hy x hx
theorem joinU_good {a b : List S47} (ha : IsSet a) (hb : IsSet b) : ∀ x ∈ joinU a b, badB x = false := by
  intro x hx
  unfold joinU at hx
  rcases List.mem_append.1 hx with hx | hx
  · exact ha.good x hx
  · exact hb.good x (List.mem_filter.1 hx).1
theorem join_agree {a b : List S47} (ha : IsSet a) (hab : Agree a b) : joinB a b = ((makeB (joinU a b)).1, (makeB (joinU a b)).2 == 0) := by
  refine joinFrom_ok a b a (fun y hy => ?_)
  by_cases c : getB a y.f0 = ⟨#[]⟩
  · exact .inl c
  · obtain ⟨x, hx, e, e2⟩ := getB_in c
    exact .inr (by rw [← e2]; exact hab x hx y hy e)
theorem join_no {a b : List S47} (ha : IsSet a) (hab : ¬ Agree a b) : joinB a b = ([], false) := by
  refine joinFrom_no a b a ?_
  unfold Agree at hab
  simp only [Classical.not_forall] at hab
  obtain ⟨x, hx, y, hy, e, ne⟩ := hab
  have := getB_mem ha.nodup hx
  rw [e] at this
  exact ⟨y, hy, by rw [this]; exact size_ne (good_sizes x (ha.good x hx)).2.2.1, by rw [this]; exact ne⟩
theorem join_comm {a b : List S47} (ha : IsSet a) (hb : IsSet b) : joinB a b = joinB b a := by
  by_cases h : Agree a b
  · rw [join_agree ha h, join_agree hb h.swap, make_perm (perm_of_mem (joinU_nodup ha hb) (joinU_nodup hb ha) (fun x => by rw [joinU_mem h, joinU_mem h.swap, Or.comm]))]
  · rw [join_no ha h, join_no hb (fun q => h q.swap)]
theorem join_part {a b : List S47} (ha : IsSet a) (hb : ∀ x ∈ b, x ∈ a) : joinB a b = (a, true) := by
  have e : ∀ x ∈ b, getB a x.f0 = x.f1 := fun x hx => getB_mem ha.nodup (hb x hx)
  have hab : Agree a b := fun x hx y hy q => by
    have h1 := getB_mem ha.nodup hx
    rw [q, e y hy] at h1
    exact h1.symm
  have : joinU a b = a := by
    unfold joinU
    rw [List.filter_eq_nil_iff.2 (fun x hx q => ?_), List.append_nil]
    have := of_decide_eq_true q
    rw [e x hx] at this
    exact size_ne (good_sizes x (ha.good x (hb x hx))).2.2.1 this
  rw [join_agree ha hab, this, ha.make]
  rfl
theorem join_split {a : List S47} (ha : IsSet a) (names : List ByteArray) : joinB (withoutB a names) (onlyB a names) = (a, true) := by
  have hw : IsSet (withoutB a names) := filter_set ha _
  have e : ∀ y ∈ onlyB a names, getB (withoutB a names) y.f0 = ⟨#[]⟩ := fun y hy => getB_out (fun x hx q => by
    rw [without_mem] at hx
    rw [only_mem] at hy
    exact hx.2 (q ▸ hy.2))
  have hab : Agree (withoutB a names) (onlyB a names) := fun x hx y hy q => by
    rw [without_mem] at hx
    rw [only_mem] at hy
    exact absurd (q ▸ hy.2) hx.2
  have : joinU (withoutB a names) (onlyB a names) = withoutB a names ++ onlyB a names := by
    unfold joinU
    rw [List.filter_eq_self.2 (fun x hx => show newB (withoutB a names) x = true from decide_eq_true (e x hx))]
  rw [join_agree hw hab, this, make_perm (part_perm a names), ha.make]
  rfl
theorem join_has {a b : List S47} (ha : IsSet a) (_ : IsSet b) (h : (joinB a b).2 = true) {x : S47} (hx : x ∈ a) : getB (joinB a b).1 x.f0 = x.f1 := by
  by_cases hab : Agree a b
  · rw [join_agree ha hab] at h ⊢
    rcases make_cases (joinU a b) with ⟨e, _, hn, _⟩ | ⟨_, e⟩
    · rw [e]
      exact getB_mem (((srt_perm _).map (·.f0)).nodup_iff.2 hn) ((srt_perm _).mem_iff.2 ((joinU_mem hab x).2 (.inl hx)))
    · exact absurd (by simpa using h) e
  · rw [join_no ha hab] at h
    cases h
theorem join_len (a b : List S47) (ha : IsSet a) : (joinB a b).1.length ≤ 16 := by
  by_cases hab : Agree a b
  · rw [join_agree ha hab]; exact make_len _
  · rw [join_no ha hab]; decide

/-! ### With -/
def withU (l more : List S47) : List S47 := more ++ withoutB l (more.map (·.f0))
theorem withB_eq (l more : List S47) : withB l more = makeB (withU l more) := rfl
theorem withU_mem (l more : List S47) (x : S47) : x ∈ withU l more ↔ x ∈ more ∨ x ∈ l ∧ x.f0 ∉ more.map (·.f0) := by
  unfold withU
  rw [List.mem_append, without_mem]
theorem withU_nodup {l more : List S47} (hl : IsSet l) (hm : IsSet more) : ((withU l more).map (·.f0)).Nodup := by
  refine nodup_app hm.nodup (filter_set hl _).nodup (fun x hx y hy e => ?_)
  have hy : y ∈ withoutB l (more.map (·.f0)) := hy
  rw [without_mem] at hy
  exact hy.2 (List.mem_map.2 ⟨x, hx, e⟩)
theorem withU_good {l more : List S47} (hl : IsSet l) (hm : IsSet more) : ∀ x ∈ withU l more, badB x = false := by
  intro x hx
  rw [withU_mem] at hx
  rcases hx with hx | hx
  · exact hm.good x hx
  · exact hl.good x hx.1
theorem with_none {l : List S47} (hl : IsSet l) : withB l [] = (l, 0) := by
  have : withU l [] = l := by
    unfold withU withoutB
    rw [List.nil_append]
    exact List.filter_eq_self.2 (fun x _ => rfl)
  rw [withB_eq, this, hl.make]
theorem with_again {l more : List S47} (hl : IsSet l) (hm : IsSet more) (h : (withU l more).length ≤ 16) : withB (srt (withU l more)) more = (srt (withU l more), 0) := by
  have hu := srt_set (withU_good hl hm) (withU_nodup hl hm) h
  rw [withB_eq, make_perm (l' := withU l more) (perm_of_mem (withU_nodup hu hm) (withU_nodup hl hm) (fun x => ?_)), make_ok (withU_good hl hm) (withU_nodup hl hm) h]
  rw [withU_mem, withU_mem, (srt_perm _).mem_iff, withU_mem]
  constructor
  · rintro (h | ⟨h | h, h2⟩)
    · exact .inl h
    · exact .inl h
    · exact .inr h
  · rintro (h | h)
    · exact .inl h
    · exact .inr ⟨.inr h, h.2⟩
end Go.Proofs.YtmhilolgjcfhjaaGreat.X
