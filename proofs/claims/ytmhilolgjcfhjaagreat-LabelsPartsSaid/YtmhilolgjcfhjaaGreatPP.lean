/- The document's Key: what it answers in plain Lean. -/
import Derived.Test.YtmhilolgjcfhjaaGreatPA
import Derived.Lib.AppendStr
import Derived.Test.YtmhilolgjcfhjaaGreatPK
set_option linter.unusedVariables false
set_option linter.unusedSimpArgs false

/- The row of '[]byte("{")': its block bears a mark, so nothing is ever laid into it; the first append makes a new row. -/
namespace Go.Proofs.YtmhilolgjcfhjaaGreat.X
open Go.RowKit Go.Proofs.YtmhilolgjcfhjaaGreatW.PrintWords Go.Proofs.YtmhilolgjcfhjaaGreatW.PrintLast Go.Proofs.YtmhilolgjcfhjaaGreatW.PrintMore

theorem info5 : (Tryz.prog.info? 5).map (fun i => (i.zero, i.size, i.bytes)) = some (some (.int .u8 0), 1, 1) := by kernel_rfl
/-- Bytes of the call's own, or the marked row of one byte. -/
def Kx (base : Nat) (W : World) (v : Value) (xs : List Int) : Prop :=
  Kd.R (Kd.int .u8) 5 W base (fun _ => True) v xs ∨ (xs = [123] ∧ ∃ g, v = .slice (some ⟨g, 0, none⟩) 1 1 ∧ W.cell? ⟨g, 0, none⟩ = some (.int .u8 123))
theorem Kx.on {base : Nat} {W W' : World} {v : Value} {xs : List Int} (h : Kx base W v xs) (hb : Below W.heap.size W W') : Kx base W' v xs := by
  rcases h with h | ⟨rfl, g, rfl, hc⟩
  · exact .inl (Kd.R_below h hb)
  · exact .inr ⟨rfl, g, rfl, (hb.cell (p := ⟨g, 0, none⟩) (block_lt_of_cell hc)).trans hc⟩

theorem conv_lit (w : World) : (convert 73 73 (.slice (some ⟨w.heap.size, 0, none⟩) 1 1)).run Tryz.prog (w.alloc (.cells #[.int .u8 123] 5)) = .ok (.slice (some ⟨w.heap.size, 0, none⟩) 1 1) ((w.alloc (.cells #[.int .u8 123] 5)).freeze ⟨w.heap.size, 1, none⟩ 1) := by
  have hsh : (w.alloc (.cells #[.int .u8 123] 5)).shape? w.heap.size = some (5, 1) := by
    simp [World.shape?, World.alloc, -World.alloc_eq]
  simp [convert, run_underlying Tryz.underlying73, run_underlying Tryz.underlying5, markStringish, hsh, Result.andThen]
theorem conv_below (w : World) : Below w.heap.size w ((w.alloc (.cells #[.int .u8 123] 5)).freeze ⟨w.heap.size, 1, none⟩ 1) ∧ ((w.alloc (.cells #[.int .u8 123] 5)).freeze ⟨w.heap.size, 1, none⟩ 1).cell? ⟨w.heap.size, 0, none⟩ = some (.int .u8 123) := by
  constructor
  · refine ⟨rfl, rfl, rfl, by simp [World.freeze, World.alloc, -World.alloc_eq], fun k hk => ?_⟩
    have h1 : w.heap.size ≠ k := by omega
    simp [World.freeze, World.alloc, -World.alloc_eq, Array.getElem?_modify, Array.getElem?_push, h1, Ne.symm h1]
  · have : ((w.alloc (.cells #[.int .u8 123] 5)).freeze ⟨w.heap.size, 1, none⟩ 1).heap[w.heap.size]? = some (.cells #[.int .u8 123] 5 (1, 2)) := by
      simp [World.freeze, World.alloc, -World.alloc_eq]
      rw [Array.getElem_modify_self]
      simp
    rw [cell_of_row _ _ 0 _ 5 (1, 2) this]
    rfl

/-- A new row of bytes, as growing makes it. -/
theorem grown_row (W : World) (base : Nat) (hbase : base ≤ W.heap.size) (xs : List Int) (cap : Nat) (hc : xs.length ≤ cap) (hm : cap ≤ maxLen) (cur : Array Value) (hcur : cur = ((nums .u8 xs).toArray ++ Builtin.zeroCells #[.int .u8 0] (cap - xs.length))) :
    Kd.R (Kd.int .u8) 5 (W.drew.alloc (.cells cur 5)) base (fun _ => True) (.slice (some ⟨W.heap.size, 0, none⟩) xs.length cap) xs := by
  subst hcur
  refine Kd.R_of_own ⟨by rw [Nat.mul_one]; exact nums_length _ _, .inr ⟨W.heap.size, cap, _, rfl, hbase, heap_alloc_new W.drew _, hc, hm, ?_, ?_⟩⟩ (fun _ _ => trivial)
  · rw [Array.size_append, size_zeroCells, List.size_toArray, nums_length]
    show xs.length + (cap - xs.length) * 1 = cap * 1
    omega
  · rw [Array.toList_append, Nat.mul_one]
    have e : xs.length = (nums .u8 xs).toArray.toList.length := by simp [nums]
    rw [e, List.take_left]
    rfl

section
variable {ops : Array Oper} {rest : List Oper} {o : Oper} {a : Act} {Q : Exit → Act → World → Prop} {w0 W : World}
theorem Kx_append_str (base : Nat) (hgd : o.guard = none) (s x : Operand) (ho : o.op = .call { callee := .builtin .append, args := #[s, x], argTypes := #[73, 9] })
    (v : Value) (xs : List Int) (y : ByteArray) (hs : a.eval s = v) (hx : a.eval x = .string y) (HO : Kx base W v xs) (HB : Below base w0 W) (hbase : base ≤ W.heap.size) (hy : 1 ≤ y.size) (hl : xs.length + y.size ≤ 140737488355328)
    (h : ∀ v1 w1, Kd.R (Kd.int .u8) 5 w1 base (fun _ => True) v1 (xs ++ bytesOf y) → Below base w0 w1 → wpList Tryz.prog ops Q rest (a.put o.dst v1) w1) :
    wpList Tryz.prog ops Q (o :: rest) a W := by
  rcases HO with HO | ⟨rfl, g, rfl, hc⟩
  · refine print_append_str (w0 := w0) base hgd s x 73 9 5 ho Tryz.underlying73 Tryz.underlying9 info5 v xs y hs hx (Kd.own_of_R HO) HB hbase hl ?_
    intro v1 w1 ho0 hb _
    exact h v1 w1 (Kd.R_of_own (h1 := fun _ => rfl) (ok := fun _ => True) ho0 (fun _ _ => trivial)) hb
  · obtain ⟨i, hi, hz⟩ := Option.map_eq_some_iff.1 info5
    simp only [Prod.mk.injEq] at hz
    have hl2 : 1 + y.size ≤ 140737488355328 := by simpa using hl
    have hrun := Lib.run_append_grow_string (P := Tryz.prog) W 73 9 o.type 5 i (.int .u8 0) Tryz.underlying73 Tryz.underlying9 hi hz.1 ⟨g, 0, none⟩ 1 1 [.int .u8 123] (by rw [hz.2.1]; rfl)
      (fun j u hj => by
        match j, hj with
        | 0, hj => cases hj; rw [show (⟨g, 0, none⟩ : Addr).add 0 = ⟨g, 0, none⟩ by simp [Addr.add]]; exact hc)
      y (by omega) (by omega) (by rw [hz.2.2]; exact growslice_fits (by omega) (by omega))
    have hge := grownCap_ge W (1 + y.size) 1 5
    have hle : grownCap W (1 + y.size) 1 5 ≤ maxLen := grownCap_le_maxLen W (1 + y.size) 1 5 (by unfold maxLen; omega)
    have hlen : ([123] ++ bytesOf y : List Int).length = 1 + y.size := by simp [bytesOf_length]; omega
    have hR := grown_row W base hbase ([123] ++ bytesOf y) (grownCap W (1 + y.size) 1 5) (by rw [hlen]; exact hge) hle _ rfl
    rw [hlen] at hR
    refine Kd.event_run hgd ?_ (h _ _ hR (below_drew1 (HB) |>.alloc hbase _))
    simp [execOp, ho, resolve, invoke, builtin, hs, hx, hrun, Result.andThen]
    have e : nums .u8 (123 :: bytesOf y) = .int .u8 123 :: Lib.strCells y := by
      have : nums .u8 (bytesOf y) = Lib.strCells y := by unfold nums bytesOf Lib.strCells; simp
      rw [← this]; rfl
    rw [e]
    rfl
theorem Kx_append_one (base : Nat) (hgd : o.guard = none) (s x : Operand) (ho : o.op = .call { callee := .builtin .append, args := #[s, x], argTypes := #[73, 73] })
    (v : Value) (xs : List Int) (b : Int) (hs : a.eval s = v) (hx : a.eval x = .slice (some ⟨W.heap.size, 0, none⟩) 1 1) (HO : Kx base W v xs) (HB : Below base w0 W) (hbase : base ≤ W.heap.size) (hl : (xs.length + 1) * 1 ≤ 140737488355328)
    (h : ∀ v1 w1, Kd.R (Kd.int .u8) 5 w1 base (fun _ => True) v1 (xs ++ [b]) → Below base w0 w1 → wpList Tryz.prog ops Q rest (a.put o.dst v1) w1) :
    wpList Tryz.prog ops Q (o :: rest) a (W.alloc (.cells #[.int .u8 b] 5)) := by
  rcases HO with HO | ⟨rfl, g, rfl, hc⟩
  · refine Kd.R_append (Kd.int .u8) (w0 := w0) base hgd s x 73 5 (.int .u8 0) 1 ho Tryz.underlying73 info5 rfl (by decide) (by omega) v xs b [.int .u8 b] (fun _ => True) (fun _ => False) hs hx rfl (fun _ hk => hk.elim) (fun _ _ => trivial) HO HB hbase hl ?_
    intro v1 w1 h1 h2 _ _
    exact h v1 w1 h1 h2
  · obtain ⟨i, hi, hz⟩ := Option.map_eq_some_iff.1 info5
    simp only [Prod.mk.injEq] at hz
    have hb1 : Below W.heap.size W (W.alloc (.cells #[.int .u8 b] 5)) := (Below.refl _ _).alloc (Nat.le_refl _) _
    have hadd : ∀ k, (⟨k, 0, none⟩ : Addr).add 0 = ⟨k, 0, none⟩ := fun k => by simp [Addr.add]
    have hrun := run_append_grow (P := Tryz.prog) (W.alloc (.cells #[.int .u8 b] 5)) 73 o.type 5 i (.int .u8 0) Tryz.underlying73 hi hz.1 ⟨g, 0, none⟩ 1 1 [.int .u8 123] (by rw [hz.2.1]; rfl)
      (fun j u hj => by
        match j, hj with
        | 0, hj => cases hj; rw [hadd]; exact (hb1.cell (p := ⟨g, 0, none⟩) (block_lt_of_cell hc)).trans hc)
      ⟨W.heap.size, 0, none⟩ 1 1 [.int .u8 b] (by rw [hz.2.1]; rfl)
      (fun j u hj => by
        match j, hj with
        | 0, hj => cases hj; rw [hadd, World.cell?_alloc_new]; rfl)
      (by omega) (by decide) (by rw [hz.2.2]; exact growslice_fits (by omega) (by omega))
    have hge := grownCap_ge (W.alloc (.cells #[.int .u8 b] 5)) (1 + 1) 1 5
    have hle : grownCap (W.alloc (.cells #[.int .u8 b] 5)) (1 + 1) 1 5 ≤ maxLen := grownCap_le_maxLen _ (1 + 1) 1 5 (by unfold maxLen; omega)
    have hR := grown_row (W.alloc (.cells #[.int .u8 b] 5)) base (by rw [World.size_alloc]; omega) [123, b] (grownCap (W.alloc (.cells #[.int .u8 b] 5)) (1 + 1) 1 5) (show 2 ≤ _ from hge) hle _ rfl
    refine Kd.event_run hgd ?_ (h _ _ hR (below_drew1 (HB.alloc hbase _) |>.alloc (by rw [World.size_drew, World.size_alloc]; omega) _))
    simp [execOp, ho, resolve, invoke, builtin, hs, hx, hrun, Result.andThen]
    rfl
end
end Go.Proofs.YtmhilolgjcfhjaaGreat.X

-- klaxonref09.Key: the print's text (wip/xprint.py), turned by hand at the marked row of its first bytes.
namespace Go.Proofs.YtmhilolgjcfhjaaGreat.X
open Go.RowKit Go.Proofs.YtmhilolgjcfhjaaGreatW.PrintWords Go.Proofs.YtmhilolgjcfhjaaGreatW.PrintLast Go.Proofs.YtmhilolgjcfhjaaGreatW.PrintMore
attribute [local go_sem] max2_int min2_int max_two min_two max_three min_three max_four min_four   -- for this text's walks alone
set_option linter.unusedVariables false
set_option linter.unusedSimpArgs false

/-! ### refKeyP: function 34 -/
mutual
def refKeyP.l0 : Nat → List (S47) → List Int → Int → Option (ByteArray)
  | 0, _, _, _ => none
  | k + 1, x0, x3, x4 => if x4 < (x0.length : Int) then (if x4 > 0 then (if x3.length < 140737488355328 then (refKeyP.j1 k x0 (x3 ++ [44]) x4) else (none)) else (refKeyP.j1 k x0 x3 x4)) else (if x3.length < 140737488355328 then (some (strOfNums (x3 ++ [125]))) else (none))
def refKeyP.j1 : Nat → List (S47) → List Int → Int → Option (ByteArray)
  | 0, _, _, _ => none
  | k + 1, x0, x3, x4 => if 0 ≤ x4 then (if x4 < (x0.length : Int) then (if x3.length + ((rd_T47 x0 x4).f0).size < 140737488355328 then ((some (x3 ++ bytesOf ((rd_T47 x0 x4).f0) : List Int)).bind fun y444 => ((some (([61, 34] : List Int) : List Int)).bind fun y447 => (if y444.length + y447.length < 140737488355328 then (refKeyP.l1 k x0 (y444 ++ y447) x4 0) else (none)))) else (none)) else (none)) else (none)
def refKeyP.l1 : Nat → List (S47) → List Int → Int → Int → Option (ByteArray)
  | 0, _, _, _, _ => none
  | k + 1, x0, x3, x4, x5 => if 0 ≤ x4 then (if x4 < (x0.length : Int) then (if x5 < (((rd_T47 x0 x4).f1).size : Int) then (if 0 ≤ x5 then (if (bt ((rd_T47 x0 x4).f1) x5) = 92 then (if x3.length < 140737488355328 then ((some (x3 ++ [92] : List Int)).bind fun y455 => (if y455.length < 140737488355328 then (refKeyP.l1 k x0 (y455 ++ [bt ((rd_T47 x0 x4).f1) x5]) x4 (wrap64 (x5 + 1))) else (none))) else (none)) else (if (bt ((rd_T47 x0 x4).f1) x5) = 34 then (if x3.length < 140737488355328 then ((some (x3 ++ [92] : List Int)).bind fun y461 => (if y461.length < 140737488355328 then (refKeyP.l1 k x0 (y461 ++ [bt ((rd_T47 x0 x4).f1) x5]) x4 (wrap64 (x5 + 1))) else (none))) else (none)) else (if x3.length < 140737488355328 then (refKeyP.l1 k x0 (x3 ++ [bt ((rd_T47 x0 x4).f1) x5]) x4 (wrap64 (x5 + 1))) else (none)))) else (none)) else (if x3.length < 140737488355328 then (refKeyP.l0 k x0 (x3 ++ [34]) (wrap64 (x4 + 1))) else (none))) else (none)) else (none)
end
def refKeyP.f (k : Nat) (l0 : List (S47)) : Option (ByteArray) := refKeyP.l0 k l0 (([123] : List Int)) 0
theorem refKeyP.mono_l : ∀ k, (∀ y0 y1 y2, LeO (refKeyP.l0 k y0 y1 y2) (refKeyP.l0 (k + 1) y0 y1 y2)) ∧ (∀ y0 y1 y2, LeO (refKeyP.j1 k y0 y1 y2) (refKeyP.j1 (k + 1) y0 y1 y2)) ∧ (∀ y0 y1 y2 y3, LeO (refKeyP.l1 k y0 y1 y2 y3) (refKeyP.l1 (k + 1) y0 y1 y2 y3))
  | 0 => ⟨fun _ _ _ r h => by simp [refKeyP.l0] at h, fun _ _ _ r h => by simp [refKeyP.j1] at h, fun _ _ _ _ r h => by simp [refKeyP.l1] at h⟩
  | k + 1 => by
    obtain ⟨ih0, ih1, ih2⟩ := refKeyP.mono_l k
    refine ⟨?_, ?_, ?_⟩
    · intro y0 y1 y2
      unfold refKeyP.l0
      repeat' first
      | (with_reducible exact ih0 _ _ _)
      | (with_reducible exact ih1 _ _ _)
      | (with_reducible exact ih2 _ _ _ _)
      | (with_reducible exact LeO.refl _)
      | (with_reducible exact LeO.none _)
      | (with_reducible refine LeO.ite ?_ ?_)
      | (with_reducible refine LeO.bind ?_ (fun _ => ?_))
      | exact ih0 _ _ _
      | exact ih1 _ _ _
      | exact ih2 _ _ _ _
      | exact LeO.none _
      | refine LeO.ite ?_ ?_
      | refine LeO.bind ?_ (fun _ => ?_)
    · intro y0 y1 y2
      unfold refKeyP.j1
      repeat' first
      | (with_reducible exact ih0 _ _ _)
      | (with_reducible exact ih1 _ _ _)
      | (with_reducible exact ih2 _ _ _ _)
      | (with_reducible exact LeO.refl _)
      | (with_reducible exact LeO.none _)
      | (with_reducible refine LeO.ite ?_ ?_)
      | (with_reducible refine LeO.bind ?_ (fun _ => ?_))
      | exact ih0 _ _ _
      | exact ih1 _ _ _
      | exact ih2 _ _ _ _
      | exact LeO.none _
      | refine LeO.ite ?_ ?_
      | refine LeO.bind ?_ (fun _ => ?_)
    · intro y0 y1 y2 y3
      unfold refKeyP.l1
      repeat' first
      | (with_reducible exact ih0 _ _ _)
      | (with_reducible exact ih1 _ _ _)
      | (with_reducible exact ih2 _ _ _ _)
      | (with_reducible exact LeO.refl _)
      | (with_reducible exact LeO.none _)
      | (with_reducible refine LeO.ite ?_ ?_)
      | (with_reducible refine LeO.bind ?_ (fun _ => ?_))
      | exact ih0 _ _ _
      | exact ih1 _ _ _
      | exact ih2 _ _ _ _
      | exact LeO.none _
      | refine LeO.ite ?_ ?_
      | refine LeO.bind ?_ (fun _ => ?_)
theorem refKeyP.mono : ∀ a0 k, LeO (refKeyP.f k a0) (refKeyP.f (k + 1) a0) := by
  intro a0 k
  obtain ⟨ih0, ih1, ih2⟩ := refKeyP.mono_l k
  unfold refKeyP.f
  repeat' first
      | (with_reducible exact ih0 _ _ _)
      | (with_reducible exact ih1 _ _ _)
      | (with_reducible exact ih2 _ _ _ _)
      | (with_reducible exact LeO.refl _)
      | (with_reducible exact LeO.none _)
      | (with_reducible refine LeO.ite ?_ ?_)
      | (with_reducible refine LeO.bind ?_ (fun _ => ?_))
      | exact ih0 _ _ _
      | exact ih1 _ _ _
      | exact ih2 _ _ _ _
      | exact LeO.none _
      | refine LeO.ite ?_ ?_
      | refine LeO.bind ?_ (fun _ => ?_)
set_option maxHeartbeats 8000000 in
set_option maxRecDepth 100000 in
theorem refKeyP.calls (k : Nat) (A0 : Option Addr) (c0 : Nat) (l0 : List (S47)) (r : ByteArray) (w : World) (hr0 : Kd.C k47 w A0 l0.length l0) (hc0 : l0.length ≤ c0) (hN : ∀ x ∈ l0, 1 ≤ x.f0.size) (h : refKeyP.f k l0 = some r) :
    Calls Tryz.prog 34 #[.slice A0 l0.length c0] w fun e w' => e = .returned (.string r) ∧ Below w.heap.size w w' := by
  have HR0 := Aside0.mk hr0
  have HC0 := Aside0.mk hc0
  have HNN := Aside0.mk hN
  clear hr0 hc0 hN
  have HB := Aside0.mk (Below.refl w.heap.size w)
  have H : (refKeyP.l0 k l0 (([123] : List Int)) 0) = some r := h
  clear h
  obtain ⟨y434, hy434⟩ : ∃ y_ : List Int, y_ = (([123] : List Int)) := ⟨_, rfl⟩
  replace H : (refKeyP.l0 k l0 y434 0) = some r := by first | (rw [hy434]; with_reducible exact H) | (have H2_ := (Option.bind_some _ _).symm.trans H; rw [hy434]; with_reducible exact H2_) | (have H2_ := (Option.bind_some _ _).symm.trans H; with_reducible exact H2_) | with_reducible exact H | (rw [hy434]; exact H) | exact H
  have Ny434 := Aside0.mk hy434
  clear hy434
  have H' := Aside0.mk H
  clear H
  have hcl := conv_lit w
  go_enter Tryz.func34, Tryz.ntmps34
  go_wp2_with fail
  have HB2 := Aside0.mk (conv_below w).1
  have HK0 := Aside0.mk (show Kx w.heap.size ((w.alloc (.cells #[.int .u8 123] 5)).freeze ⟨w.heap.size, 1, none⟩ 1) (.slice (some ⟨w.heap.size, 0, none⟩) 1 1) y434 from .inr ⟨Ny434.out, w.heap.size, rfl, (conv_below w).2⟩)
  clear HB hcl
  have HB := HB2
  clear HB2
  generalize (w.alloc (.cells #[.int .u8 123] 5)).freeze ⟨w.heap.size, 1, none⟩ 1 = wz at HB HK0 ⊢
  go_loopg [3, 4] k (fun kq v3 v4 w' => ∃ (x3_1 : List Int) (x4_1 : Int), v4 = .int .i64 x4_1 ∧ Aside0 (refKeyP.l0 kq l0 x3_1 x4_1 = some r) ∧ Aside0 (kq ≤ k) ∧ Aside0 (Kx w.heap.size w' v3 x3_1) ∧ Aside0 (Below w.heap.size w w'))
  case atStart => exact ⟨(y434), (0), (by first | rfl | (simp; done) | (simp [*]; done)), H', ⟨Nat.le_refl _⟩, ⟨HK0.out⟩, ⟨by repeat (first | (with_reducible first | exact HB.out | apply below_alloc | apply pw_below_drewN | apply below_drew1) | exact HB.out)⟩⟩
  case round =>
    clear H'
    try clear p2
    try clear c3
    obtain ⟨x3_1, x4_1, rfl, HA, HK1, HO_3, HB⟩ := hrel
    cases gk with
    | zero => exact absurd HA.out (by simp [refKeyP.l0])
    | succ k1 =>
      have H := HA.out
      clear HA
      simp only [refKeyP.l0] at H
      by_cases c4 : x4_1 < (l0.length : Int)
      · rw [if_pos c4] at H
        have c4b0 : decide (x4_1 < (l0.length : Int)) = true := decide_eq_true c4
        clear c4
        have HC5 := Aside0.mk H
        clear H
        go_upto_if 16 with (fail)
        go_cut [3] (fun v3 wc => ∃ (kq : Nat) (x3_4 : List Int), Aside0 (refKeyP.j1 kq l0 x3_4 x4_1 = some r) ∧ Aside0 (kq ≤ k1) ∧ Aside0 (Kx w.heap.size wc v3 x3_4) ∧ Aside0 (Below w.heap.size w wc))
        case first =>
          have H := HC5.out
          clear HC5
          by_cases c6 : x4_1 > 0
          · rw [if_pos c6] at H
            have c6b0 : decide (0 < x4_1) = true := decide_eq_true c6
            clear c6
            (first | rw [c6b0] | (simp only [i64_w, i32_w]; rw [c6b0]) | skip)
            by_cases c7 : x3_1.length < 140737488355328
            · rw [if_pos c7] at H
              have LMc7 := Aside0.mk c7
              clear c7
              obtain ⟨y440, hy440⟩ : ∃ y_ : List Int, y_ = (x3_1 ++ [44]) := ⟨_, rfl⟩
              replace H : (refKeyP.j1 k1 l0 y440 x4_1) = some r := by first | (rw [hy440]; with_reducible exact H) | (have H2_ := (Option.bind_some _ _).symm.trans H; rw [hy440]; with_reducible exact H2_) | (have H2_ := (Option.bind_some _ _).symm.trans H; with_reducible exact H2_) | with_reducible exact H | (rw [hy440]; exact H) | exact H
              have Ny440 := Aside0.mk hy440
              clear hy440
              have H' := Aside0.mk H
              clear H
              go_wp2_with (first | ((with_reducible refine gate_builtin (b := .append) (xs := #[.tmp 17, .tmp 18]) rfl ?_); at_builtin; refine Kx_append_one (w0 := w) w.heap.size rfl (.tmp 17) (.tmp 18) rfl u3 x3_1 44 rfl rfl HO_3.out HB.out HB.out.size (by have := LMc7.out; omega) ?_; intro v441 w8 ho hb; have hg := True.intro; have hat := True.intro; rw [← Ny440.out] at ho; have n0_ := Aside0.mk (hb); have n1_ := Aside0.mk (ho); clear HB; clear HO_3; have HB := n0_; have HO442 := n1_; clear n0_ n1_; clear ho hb hg hat))
              go_meet
              case rel => exact ⟨_, (y440), H', ⟨by have := HK1.out; first | omega | exact Nat.le_refl _⟩, ⟨.inl HO442.out⟩, ⟨by repeat (first | (with_reducible first | exact HB.out | apply below_alloc | apply pw_below_drewN | apply below_drew1) | exact HB.out)⟩⟩
            · rw [if_neg c7] at H
              exact absurd H (by simp)
          · rw [if_neg c6] at H
            have c6b0 : decide (0 < x4_1) = false := decide_eq_false c6
            clear c6
            (first | rw [c6b0] | (simp only [i64_w, i32_w]; rw [c6b0]) | skip)
            have H' := Aside0.mk H
            clear H
            go_wp2
            go_meet
            case rel => exact ⟨_, (x3_1), H', ⟨by have := HK1.out; first | omega | exact Nat.le_refl _⟩, ⟨HO_3.out⟩, ⟨by repeat (first | (with_reducible first | exact HB.out | apply below_alloc | apply pw_below_drewN | apply below_drew1) | exact HB.out)⟩⟩
        case rest =>
          clear HC5
          try clear p2
          try clear c3
          try clear c4
          try clear c4b0
          try clear c6
          try clear c6b0
          try clear c7
          try clear p2
          obtain ⟨kq, x3_4, HA, HJ4, HO_3, HB⟩ := hcut
          cases kq with
          | zero => exact absurd HA.out (by simp [refKeyP.j1])
          | succ kj4 =>
            have H := HA.out
            clear HA
            simp only [refKeyP.j1] at H
            by_cases c9 : 0 ≤ x4_1
            · rw [if_pos c9] at H
              have c9b0 : decide (0 ≤ x4_1) = true := decide_eq_true c9
              clear c9
              by_cases c10 : x4_1 < (l0.length : Int)
              · rw [if_pos c10] at H
                have c10b0 : decide (x4_1 < (l0.length : Int)) = true := decide_eq_true c10
                clear c10
                by_cases c11 : x3_4.length + ((rd_T47 l0 x4_1).f0).size < 140737488355328
                · rw [if_pos c11] at H
                  have LMc11 := Aside0.mk c11
                  clear c11
                  obtain ⟨y444, hy444⟩ : ∃ y_ : List Int, y_ = (x3_4 ++ bytesOf ((rd_T47 l0 x4_1).f0)) := ⟨_, rfl⟩
                  replace H : ((some (([61, 34] : List Int) : List Int)).bind fun y447 => (if y444.length + y447.length < 140737488355328 then (refKeyP.l1 kj4 l0 (y444 ++ y447) x4_1 0) else (none))) = some r := by first | (rw [hy444]; with_reducible exact H) | (have H2_ := (Option.bind_some _ _).symm.trans H; rw [hy444]; with_reducible exact H2_) | (have H2_ := (Option.bind_some _ _).symm.trans H; with_reducible exact H2_) | with_reducible exact H | (rw [hy444]; exact H) | exact H
                  have Ny444 := Aside0.mk hy444
                  clear hy444
                  obtain ⟨y447, hy447⟩ : ∃ y_ : List Int, y_ = (([61, 34] : List Int)) := ⟨_, rfl⟩
                  replace H : (if y444.length + y447.length < 140737488355328 then (refKeyP.l1 kj4 l0 (y444 ++ y447) x4_1 0) else (none)) = some r := by first | (rw [hy447]; with_reducible exact H) | (have H2_ := (Option.bind_some _ _).symm.trans H; rw [hy447]; with_reducible exact H2_) | (have H2_ := (Option.bind_some _ _).symm.trans H; with_reducible exact H2_) | with_reducible exact H | (rw [hy447]; exact H) | exact H
                  have Ny447 := Aside0.mk hy447
                  clear hy447
                  by_cases c12 : y444.length + y447.length < 140737488355328
                  · rw [if_pos c12] at H
                    have LMc12 := Aside0.mk c12
                    clear c12
                    obtain ⟨y450, hy450⟩ : ∃ y_ : List Int, y_ = (y444 ++ y447) := ⟨_, rfl⟩
                    replace H : (refKeyP.l1 kj4 l0 y450 x4_1 0) = some r := by first | (rw [hy450]; with_reducible exact H) | (have H2_ := (Option.bind_some _ _).symm.trans H; rw [hy450]; with_reducible exact H2_) | (have H2_ := (Option.bind_some _ _).symm.trans H; with_reducible exact H2_) | with_reducible exact H | (rw [hy450]; exact H) | exact H
                    have Ny450 := Aside0.mk hy450
                    clear hy450
                    have H' := Aside0.mk H
                    clear H
                    have p443 : 0 ≤ (x4_1 : Int) := of_decide_eq_true (by first | (with_reducible assumption) | assumption)
                    have q443 : x4_1 < (l0.length : Int) := of_decide_eq_true (by first | (with_reducible assumption) | assumption)
                    have HY := Aside0.mk (HNN.out _ (rd47_mem l0 x4_1 p443 q443))
                    obtain ⟨ad443, e443, hx443_0, hx443_1⟩ := at_T47 HR0.out x4_1 p443 q443
                    cases e443
                    replace hx443_0 := (HB.out.cell (World.block_lt_of_cell? w _ hx443_0)).trans hx443_0
                    replace hx443_1 := (HB.out.cell (World.block_lt_of_cell? w _ hx443_1)).trans hx443_1
                    replace p443 := eq_true p443
                    replace q443 := eq_true q443
                    go_wp2_with (first | (at_builtin; refine Kx_append_str (w0 := w) w.heap.size rfl (.tmp 20) _ rfl u3 x3_4 ((rd_T47 l0 x4_1).f0) rfl rfl HO_3.out HB.out HB.out.size HY.out (by have := LMc11.out; omega) ?_; intro v445 w13 ho hb; have hg := True.intro; have hat := True.intro; rw [← Ny444.out] at ho; change Kd.R (Kd.int .u8) 5 w13 w.heap.size (fun _ => True) v445 y444 at ho; have n0_ := Aside0.mk (hb); have n1_ := Aside0.mk (ho); clear HB; clear HO_3; have HB := n0_; have HO446 := n1_; clear n0_ n1_; clear ho hb hg hat) | ((with_reducible refine gate_dst (N := 28) rfl ?_); refine Kd.R_lit (Kd.int .u8) _ 5 ?hg (N := 28) ?hd (xs := ([61, 34] : List Int)) (inner := [.int .u8 61, .int .u8 34]) (ok := fun _ => True) (okp := fun _ => True) ?hr ?hp (fun _ hk => hk) trivial (Below.refl _ _) (Nat.le_refl _) (by simp) ?_; (case hd => rfl); (case hg => rfl); (case hr => first | (go_simp; done) | (go_simp; rfl)); (case hp => exact (Reps.one (show Kd.M (Kd.int .u8) _ _ _ 61 [.int .u8 61] from rfl) (Reps.one (show Kd.M (Kd.int .u8) _ _ _ 34 [.int .u8 34] from rfl) (Reps.none _ _)))); intro v448 w14 ho15 hb hg_ hnew_; clear hg_ hnew_; (first | rw [← Ny447.out] at ho15 | (simp only [Int.reduceToNat] at ho15; rw [← Ny447.out] at ho15)); have n0_ := Aside0.mk (Kd.R_elder' (by (with_reducible repeat (first | apply Kd.R_alloc | apply Kd.R_drewN | apply Kd.R_drew)); exact HO446.out) (Kd.R_base ho15) hb); have n1_ := Aside0.mk (Kd.R_lower (Kd.R_new' ho15 (Kd.R_lt (by (with_reducible repeat (first | apply Kd.R_alloc | apply Kd.R_drewN | apply Kd.R_drew)); exact HO446.out))) (below_size (by repeat (first | (with_reducible first | exact HB.out | apply below_alloc | apply pw_below_drewN | apply below_drew1) | exact HB.out)))); have n2_ := Aside0.mk (below_step (by repeat (first | (with_reducible first | exact HB.out | apply below_alloc | apply pw_below_drewN | apply below_drew1) | exact HB.out)) hb); clear HO446; clear HB; have HO446 := n0_; have HO449 := n1_; have HB := n2_; clear n0_ n1_ n2_; clear hb ho15; obtain ⟨Ao17, co17, eo17⟩ := Kd.R_slice HO449.out; subst eo17) | ((with_reducible refine gate_builtin (b := .append) (xs := #[.tmp 27, .tmp 28]) rfl ?_); at_builtin; refine Kd.R_append_rows (Kd.int .u8) (w0 := w) w.heap.size rfl (.tmp 27) (.tmp 28) 73 5 (.int .u8 0) 1 rfl Tryz.underlying73 info5 rfl (by decide) (by omega) v445 y444 y447 _ _ _ (fun k_ => some k_ ≠ (.slice Ao17 y447.length co17 : Value).ownBlock) (fun _ => False) rfl rfl ?aO ?aR (fun _ _ h => h) (fun _ h => h.elim) ?aF ?aB ?aS ?aL ?_; (case aR => repeat (first | exact (Kd.R_reads' HO449.out).2.2 | (with_reducible refine Kd.C_alloc ?_ _) | (with_reducible refine Kd.C_drewN ?_ _) | (with_reducible refine Kd.C_drew ?_))); (case aB => exact (by repeat (first | (with_reducible first | exact HB.out | apply below_alloc | apply pw_below_drewN | apply below_drew1) | exact HB.out))); (case aF => exact (fun k_ hk => Kd.fresh' (Kd.R_lt (by (with_reducible repeat (first | apply Kd.R_alloc | apply Kd.R_drewN | apply Kd.R_drew)); exact HO449.out)) k_ hk)); (case aO => exact (by (with_reducible repeat (first | apply Kd.R_alloc | apply Kd.R_drewN | apply Kd.R_drew)); exact Kd.R_mono HO446.out (fun _ hk => hk.2))); (case aS => exact (below_size (by repeat (first | (with_reducible first | exact HB.out | apply below_alloc | apply pw_below_drewN | apply below_drew1) | exact HB.out)))); (case aL => have := LMc12.out; omega); intro v451 w16 ho hb hg hat; rw [← Ny450.out] at ho; have n0_ := Aside0.mk (Kd.R_after (ok := (fun _ => True)) (by (with_reducible repeat (first | apply Kd.R_alloc | apply Kd.R_drewN | apply Kd.R_drew)); exact HO449.out) hg hat); have n1_ := Aside0.mk (hb); have n2_ := Aside0.mk (ho); clear HO449; clear HB; clear HO446; have HO449 := n0_; have HB := n1_; have HO452 := n2_; clear n0_ n1_ n2_; clear ho hb hg hat))
                    go_loopg [3, 5] kj4 (fun kq v3 v5 w' => ∃ (x3_3 : List Int) (x5_3 : Int), v5 = .int .i64 x5_3 ∧ Aside0 (refKeyP.l1 kq l0 x3_3 x4_1 x5_3 = some r) ∧ Aside0 (kq ≤ kj4) ∧ Aside0 (Kd.R (Kd.int .u8) 5 w' w.heap.size (fun _ => True) v3 x3_3) ∧ Aside0 (Below w.heap.size w w'))
                    case atStart => exact ⟨(y450), (0), (by first | rfl | (simp; done) | (simp [*]; done)), H', ⟨Nat.le_refl _⟩, ⟨by (with_reducible repeat (first | apply Kd.R_alloc | apply Kd.R_drewN | apply Kd.R_drew)); exact Kd.R_mono HO452.out (fun _ hk => trivial)⟩, ⟨by repeat (first | (with_reducible first | exact HB.out | apply below_alloc | apply pw_below_drewN | apply below_drew1) | exact HB.out)⟩⟩
                    case round =>
                      clear H'
                      try clear c1
                      try clear p2
                      try clear c3
                      try clear c4
                      try clear c4b0
                      try clear p4
                      try clear q4
                      try clear hx4
                      try clear c6
                      try clear c6b0
                      try clear c7
                      try clear c9
                      try clear c9b0
                      try clear c10
                      try clear c10b0
                      try clear c11
                      try clear c12
                      try clear hx443_0
                      try clear hx443_1
                      try clear p2
                      try clear p443
                      try clear q443
                      obtain ⟨x3_3, x5_3, rfl, HA, HK3, HO_3, HB⟩ := hrel
                      cases gk with
                      | zero => exact absurd HA.out (by simp [refKeyP.l1])
                      | succ k3 =>
                        have H := HA.out
                        clear HA
                        simp only [refKeyP.l1] at H
                        by_cases c18 : 0 ≤ x4_1
                        · rw [if_pos c18] at H
                          have c18b0 : decide (0 ≤ x4_1) = true := decide_eq_true c18
                          clear c18
                          by_cases c19 : x4_1 < (l0.length : Int)
                          · rw [if_pos c19] at H
                            have c19b0 : decide (x4_1 < (l0.length : Int)) = true := decide_eq_true c19
                            clear c19
                            by_cases c20 : x5_3 < (((rd_T47 l0 x4_1).f1).size : Int)
                            · rw [if_pos c20] at H
                              have c20b0 : decide (x5_3 < (((rd_T47 l0 x4_1).f1).size : Int)) = true := decide_eq_true c20
                              clear c20
                              by_cases c21 : 0 ≤ x5_3
                              · rw [if_pos c21] at H
                                have c21b0 : decide (0 ≤ x5_3) = true := decide_eq_true c21
                                clear c21
                                by_cases c23 : (bt ((rd_T47 l0 x4_1).f1) x5_3) = 92
                                · rw [if_pos c23] at H
                                  have c23b0 : ((bt ((rd_T47 l0 x4_1).f1) x5_3) == 92) = true := beq_iff_eq.mpr c23
                                  have c23b1 : ((bt ((rd_T47 l0 x4_1).f1) x5_3) != 92) = false := bne_eq_false_iff_eq.mpr c23
                                  clear c23
                                  by_cases c24 : x3_3.length < 140737488355328
                                  · rw [if_pos c24] at H
                                    have LMc24 := Aside0.mk c24
                                    clear c24
                                    obtain ⟨y455, hy455⟩ : ∃ y_ : List Int, y_ = (x3_3 ++ [92]) := ⟨_, rfl⟩
                                    replace H : (if y455.length < 140737488355328 then (refKeyP.l1 k3 l0 (y455 ++ [bt ((rd_T47 l0 x4_1).f1) x5_3]) x4_1 (wrap64 (x5_3 + 1))) else (none)) = some r := by first | (rw [hy455]; with_reducible exact H) | (have H2_ := (Option.bind_some _ _).symm.trans H; rw [hy455]; with_reducible exact H2_) | (have H2_ := (Option.bind_some _ _).symm.trans H; with_reducible exact H2_) | with_reducible exact H | (rw [hy455]; exact H) | exact H
                                    have Ny455 := Aside0.mk hy455
                                    clear hy455
                                    by_cases c25 : y455.length < 140737488355328
                                    · rw [if_pos c25] at H
                                      have LMc25 := Aside0.mk c25
                                      clear c25
                                      obtain ⟨y458, hy458⟩ : ∃ y_ : List Int, y_ = (y455 ++ [bt ((rd_T47 l0 x4_1).f1) x5_3]) := ⟨_, rfl⟩
                                      replace H : (refKeyP.l1 k3 l0 y458 x4_1 (wrap64 (x5_3 + 1))) = some r := by first | (rw [hy458]; with_reducible exact H) | (have H2_ := (Option.bind_some _ _).symm.trans H; rw [hy458]; with_reducible exact H2_) | (have H2_ := (Option.bind_some _ _).symm.trans H; with_reducible exact H2_) | with_reducible exact H | (rw [hy458]; exact H) | exact H
                                      have Ny458 := Aside0.mk hy458
                                      clear hy458
                                      have H' := Aside0.mk H
                                      clear H
                                      have p453 : 0 ≤ (x4_1 : Int) := of_decide_eq_true (by first | (with_reducible assumption) | assumption)
                                      have q453 : x4_1 < (l0.length : Int) := of_decide_eq_true (by first | (with_reducible assumption) | assumption)
                                      obtain ⟨ad453, e453, hx453_0, hx453_1⟩ := at_T47 HR0.out x4_1 p453 q453
                                      obtain rfl : ad443 = ad453 := (by injection e453)
                                      replace hx453_0 := (HB.out.cell (World.block_lt_of_cell? w _ hx453_0)).trans hx453_0
                                      replace hx453_1 := (HB.out.cell (World.block_lt_of_cell? w _ hx453_1)).trans hx453_1
                                      replace p453 := eq_true p453
                                      replace q453 := eq_true q453
                                      have p454 : 0 ≤ (x4_1 : Int) := of_decide_eq_true (by first | (with_reducible assumption) | assumption)
                                      have q454 : x4_1 < (l0.length : Int) := of_decide_eq_true (by first | (with_reducible assumption) | assumption)
                                      obtain ⟨ad454, e454, hx454_0, hx454_1⟩ := at_T47 HR0.out x4_1 p454 q454
                                      obtain rfl : ad443 = ad454 := (by injection e454)
                                      replace hx454_0 := (HB.out.cell (World.block_lt_of_cell? w _ hx454_0)).trans hx454_0
                                      replace hx454_1 := (HB.out.cell (World.block_lt_of_cell? w _ hx454_1)).trans hx454_1
                                      replace p454 := eq_true p454
                                      replace q454 := eq_true q454
                                      have p22 : 0 ≤ (x5_3 : Int) := of_decide_eq_true (by first | (with_reducible assumption) | assumption)
                                      have q22 : x5_3 < (((rd_T47 l0 x4_1).f1).size : Int) := of_decide_eq_true (by first | (with_reducible assumption) | assumption)
                                      have hx22 := bt_at ((rd_T47 l0 x4_1).f1) x5_3
                                      replace p22 := eq_true p22
                                      replace q22 := eq_true q22
                                      go_wp2_with (first | ((with_reducible refine gate_builtin (b := .append) (xs := #[.tmp 53, .tmp 54]) rfl ?_); at_builtin; refine Kd.R_append (Kd.int .u8) (w0 := w) w.heap.size rfl (.tmp 53) (.tmp 54) 73 5 (.int .u8 0) 1 rfl Tryz.underlying73 info5 rfl (by decide) (by omega) u3 x3_3 92 [.int .u8 92] (fun _ => True) (fun _ => False) rfl rfl ?aP (fun _ hk => hk.elim) ?aF ?aO ?aB ?aS ?aL ?_; (case aP => exact rfl); (case aB => exact (by repeat (first | (with_reducible first | exact HB.out | apply below_alloc | apply pw_below_drewN | apply below_drew1) | exact HB.out))); (case aF => exact (fun _ _ => trivial)); (case aO => exact (by (with_reducible repeat (first | apply Kd.R_alloc | apply Kd.R_drewN | apply Kd.R_drew)); exact HO_3.out)); (case aS => exact (below_size (by repeat (first | (with_reducible first | exact HB.out | apply below_alloc | apply pw_below_drewN | apply below_drew1) | exact HB.out)))); (case aL => have := LMc24.out; omega); intro v456 w26 ho hb hg hat; rw [← Ny455.out] at ho; have n0_ := Aside0.mk (hb); have n1_ := Aside0.mk (ho); clear HB; clear HO_3; have HB := n0_; have HO457 := n1_; clear n0_ n1_; clear ho hb hg hat) | ((with_reducible refine gate_builtin (b := .append) (xs := #[.tmp 56, .tmp 58]) rfl ?_); at_builtin; refine Kd.R_append (Kd.int .u8) (w0 := w) w.heap.size rfl (.tmp 56) (.tmp 58) 73 5 (.int .u8 0) 1 rfl Tryz.underlying73 info5 rfl (by decide) (by omega) v456 y455 (bt ((rd_T47 l0 x4_1).f1) x5_3) [.int .u8 (bt ((rd_T47 l0 x4_1).f1) x5_3)] (fun _ => True) (fun _ => False) rfl rfl ?aP (fun _ hk => hk.elim) ?aF ?aO ?aB ?aS ?aL ?_; (case aP => exact rfl); (case aB => exact (by repeat (first | (with_reducible first | exact HB.out | apply below_alloc | apply pw_below_drewN | apply below_drew1) | exact HB.out))); (case aF => exact (fun _ _ => trivial)); (case aO => exact (by (with_reducible repeat (first | apply Kd.R_alloc | apply Kd.R_drewN | apply Kd.R_drew)); exact HO457.out)); (case aS => exact (below_size (by repeat (first | (with_reducible first | exact HB.out | apply below_alloc | apply pw_below_drewN | apply below_drew1) | exact HB.out)))); (case aL => have := LMc25.out; omega); intro v459 w27 ho hb hg hat; rw [← Ny458.out] at ho; have n0_ := Aside0.mk (hb); have n1_ := Aside0.mk (ho); clear HB; clear HO457; have HB := n0_; have HO460 := n1_; clear n0_ n1_; clear ho hb hg hat))
                                      go_roundg k3
                                      case measure => have := HK1.out; have := HJ4.out; have := HK3.out; omega
                                      case rel => exact ⟨(y458), (wrap64 (x5_3 + 1)), (by first | rfl | (simp; done) | (simp [*]; done)), H', ⟨by have := HK1.out; have := HJ4.out; have := HK3.out; omega⟩, ⟨by (with_reducible repeat (first | apply Kd.R_alloc | apply Kd.R_drewN | apply Kd.R_drew)); exact HO460.out⟩, ⟨by repeat (first | (with_reducible first | exact HB.out | apply below_alloc | apply pw_below_drewN | apply below_drew1) | exact HB.out)⟩⟩
                                    · rw [if_neg c25] at H
                                      exact absurd H (by simp)
                                  · rw [if_neg c24] at H
                                    exact absurd H (by simp)
                                · rw [if_neg c23] at H
                                  have c23b0 : ((bt ((rd_T47 l0 x4_1).f1) x5_3) == 92) = false := beq_eq_false_iff_ne.mpr c23
                                  have c23b1 : ((bt ((rd_T47 l0 x4_1).f1) x5_3) != 92) = true := bne_iff_ne.mpr c23
                                  by_cases c28 : (bt ((rd_T47 l0 x4_1).f1) x5_3) = 34
                                  · rw [if_pos c28] at H
                                    have c28b0 : ((bt ((rd_T47 l0 x4_1).f1) x5_3) == 34) = true := beq_iff_eq.mpr c28
                                    have c28b1 : ((bt ((rd_T47 l0 x4_1).f1) x5_3) != 34) = false := bne_eq_false_iff_eq.mpr c28
                                    clear c28
                                    by_cases c29 : x3_3.length < 140737488355328
                                    · rw [if_pos c29] at H
                                      have LMc29 := Aside0.mk c29
                                      clear c29
                                      obtain ⟨y461, hy461⟩ : ∃ y_ : List Int, y_ = (x3_3 ++ [92]) := ⟨_, rfl⟩
                                      replace H : (if y461.length < 140737488355328 then (refKeyP.l1 k3 l0 (y461 ++ [bt ((rd_T47 l0 x4_1).f1) x5_3]) x4_1 (wrap64 (x5_3 + 1))) else (none)) = some r := by first | (rw [hy461]; with_reducible exact H) | (have H2_ := (Option.bind_some _ _).symm.trans H; rw [hy461]; with_reducible exact H2_) | (have H2_ := (Option.bind_some _ _).symm.trans H; with_reducible exact H2_) | with_reducible exact H | (rw [hy461]; exact H) | exact H
                                      have Ny461 := Aside0.mk hy461
                                      clear hy461
                                      by_cases c30 : y461.length < 140737488355328
                                      · rw [if_pos c30] at H
                                        have LMc30 := Aside0.mk c30
                                        clear c30
                                        obtain ⟨y464, hy464⟩ : ∃ y_ : List Int, y_ = (y461 ++ [bt ((rd_T47 l0 x4_1).f1) x5_3]) := ⟨_, rfl⟩
                                        replace H : (refKeyP.l1 k3 l0 y464 x4_1 (wrap64 (x5_3 + 1))) = some r := by first | (rw [hy464]; with_reducible exact H) | (have H2_ := (Option.bind_some _ _).symm.trans H; rw [hy464]; with_reducible exact H2_) | (have H2_ := (Option.bind_some _ _).symm.trans H; with_reducible exact H2_) | with_reducible exact H | (rw [hy464]; exact H) | exact H
                                        have Ny464 := Aside0.mk hy464
                                        clear hy464
                                        have H' := Aside0.mk H
                                        clear H
                                        have p453 : 0 ≤ (x4_1 : Int) := of_decide_eq_true (by first | (with_reducible assumption) | assumption)
                                        have q453 : x4_1 < (l0.length : Int) := of_decide_eq_true (by first | (with_reducible assumption) | assumption)
                                        obtain ⟨ad453, e453, hx453_0, hx453_1⟩ := at_T47 HR0.out x4_1 p453 q453
                                        obtain rfl : ad443 = ad453 := (by injection e453)
                                        replace hx453_0 := (HB.out.cell (World.block_lt_of_cell? w _ hx453_0)).trans hx453_0
                                        replace hx453_1 := (HB.out.cell (World.block_lt_of_cell? w _ hx453_1)).trans hx453_1
                                        replace p453 := eq_true p453
                                        replace q453 := eq_true q453
                                        have p454 : 0 ≤ (x4_1 : Int) := of_decide_eq_true (by first | (with_reducible assumption) | assumption)
                                        have q454 : x4_1 < (l0.length : Int) := of_decide_eq_true (by first | (with_reducible assumption) | assumption)
                                        obtain ⟨ad454, e454, hx454_0, hx454_1⟩ := at_T47 HR0.out x4_1 p454 q454
                                        obtain rfl : ad443 = ad454 := (by injection e454)
                                        replace hx454_0 := (HB.out.cell (World.block_lt_of_cell? w _ hx454_0)).trans hx454_0
                                        replace hx454_1 := (HB.out.cell (World.block_lt_of_cell? w _ hx454_1)).trans hx454_1
                                        replace p454 := eq_true p454
                                        replace q454 := eq_true q454
                                        have p22 : 0 ≤ (x5_3 : Int) := of_decide_eq_true (by first | (with_reducible assumption) | assumption)
                                        have q22 : x5_3 < (((rd_T47 l0 x4_1).f1).size : Int) := of_decide_eq_true (by first | (with_reducible assumption) | assumption)
                                        have hx22 := bt_at ((rd_T47 l0 x4_1).f1) x5_3
                                        replace p22 := eq_true p22
                                        replace q22 := eq_true q22
                                        go_wp2_with (first | ((with_reducible refine gate_builtin (b := .append) (xs := #[.tmp 53, .tmp 54]) rfl ?_); at_builtin; refine Kd.R_append (Kd.int .u8) (w0 := w) w.heap.size rfl (.tmp 53) (.tmp 54) 73 5 (.int .u8 0) 1 rfl Tryz.underlying73 info5 rfl (by decide) (by omega) u3 x3_3 92 [.int .u8 92] (fun _ => True) (fun _ => False) rfl rfl ?aP (fun _ hk => hk.elim) ?aF ?aO ?aB ?aS ?aL ?_; (case aP => exact rfl); (case aB => exact (by repeat (first | (with_reducible first | exact HB.out | apply below_alloc | apply pw_below_drewN | apply below_drew1) | exact HB.out))); (case aF => exact (fun _ _ => trivial)); (case aO => exact (by (with_reducible repeat (first | apply Kd.R_alloc | apply Kd.R_drewN | apply Kd.R_drew)); exact HO_3.out)); (case aS => exact (below_size (by repeat (first | (with_reducible first | exact HB.out | apply below_alloc | apply pw_below_drewN | apply below_drew1) | exact HB.out)))); (case aL => have := LMc29.out; omega); intro v462 w31 ho hb hg hat; rw [← Ny461.out] at ho; have n0_ := Aside0.mk (hb); have n1_ := Aside0.mk (ho); clear HB; clear HO_3; have HB := n0_; have HO463 := n1_; clear n0_ n1_; clear ho hb hg hat) | ((with_reducible refine gate_builtin (b := .append) (xs := #[.tmp 56, .tmp 58]) rfl ?_); at_builtin; refine Kd.R_append (Kd.int .u8) (w0 := w) w.heap.size rfl (.tmp 56) (.tmp 58) 73 5 (.int .u8 0) 1 rfl Tryz.underlying73 info5 rfl (by decide) (by omega) v462 y461 (bt ((rd_T47 l0 x4_1).f1) x5_3) [.int .u8 (bt ((rd_T47 l0 x4_1).f1) x5_3)] (fun _ => True) (fun _ => False) rfl rfl ?aP (fun _ hk => hk.elim) ?aF ?aO ?aB ?aS ?aL ?_; (case aP => exact rfl); (case aB => exact (by repeat (first | (with_reducible first | exact HB.out | apply below_alloc | apply pw_below_drewN | apply below_drew1) | exact HB.out))); (case aF => exact (fun _ _ => trivial)); (case aO => exact (by (with_reducible repeat (first | apply Kd.R_alloc | apply Kd.R_drewN | apply Kd.R_drew)); exact HO463.out)); (case aS => exact (below_size (by repeat (first | (with_reducible first | exact HB.out | apply below_alloc | apply pw_below_drewN | apply below_drew1) | exact HB.out)))); (case aL => have := LMc30.out; omega); intro v465 w32 ho hb hg hat; rw [← Ny464.out] at ho; have n0_ := Aside0.mk (hb); have n1_ := Aside0.mk (ho); clear HB; clear HO463; have HB := n0_; have HO466 := n1_; clear n0_ n1_; clear ho hb hg hat))
                                        go_roundg k3
                                        case measure => have := HK1.out; have := HJ4.out; have := HK3.out; omega
                                        case rel => exact ⟨(y464), (wrap64 (x5_3 + 1)), (by first | rfl | (simp; done) | (simp [*]; done)), H', ⟨by have := HK1.out; have := HJ4.out; have := HK3.out; omega⟩, ⟨by (with_reducible repeat (first | apply Kd.R_alloc | apply Kd.R_drewN | apply Kd.R_drew)); exact HO466.out⟩, ⟨by repeat (first | (with_reducible first | exact HB.out | apply below_alloc | apply pw_below_drewN | apply below_drew1) | exact HB.out)⟩⟩
                                      · rw [if_neg c30] at H
                                        exact absurd H (by simp)
                                    · rw [if_neg c29] at H
                                      exact absurd H (by simp)
                                  · rw [if_neg c28] at H
                                    have c28b0 : ((bt ((rd_T47 l0 x4_1).f1) x5_3) == 34) = false := beq_eq_false_iff_ne.mpr c28
                                    have c28b1 : ((bt ((rd_T47 l0 x4_1).f1) x5_3) != 34) = true := bne_iff_ne.mpr c28
                                    by_cases c33 : x3_3.length < 140737488355328
                                    · rw [if_pos c33] at H
                                      have LMc33 := Aside0.mk c33
                                      clear c33
                                      obtain ⟨y467, hy467⟩ : ∃ y_ : List Int, y_ = (x3_3 ++ [bt ((rd_T47 l0 x4_1).f1) x5_3]) := ⟨_, rfl⟩
                                      replace H : (refKeyP.l1 k3 l0 y467 x4_1 (wrap64 (x5_3 + 1))) = some r := by first | (rw [hy467]; with_reducible exact H) | (have H2_ := (Option.bind_some _ _).symm.trans H; rw [hy467]; with_reducible exact H2_) | (have H2_ := (Option.bind_some _ _).symm.trans H; with_reducible exact H2_) | with_reducible exact H | (rw [hy467]; exact H) | exact H
                                      have Ny467 := Aside0.mk hy467
                                      clear hy467
                                      have H' := Aside0.mk H
                                      clear H
                                      have p453 : 0 ≤ (x4_1 : Int) := of_decide_eq_true (by first | (with_reducible assumption) | assumption)
                                      have q453 : x4_1 < (l0.length : Int) := of_decide_eq_true (by first | (with_reducible assumption) | assumption)
                                      obtain ⟨ad453, e453, hx453_0, hx453_1⟩ := at_T47 HR0.out x4_1 p453 q453
                                      obtain rfl : ad443 = ad453 := (by injection e453)
                                      replace hx453_0 := (HB.out.cell (World.block_lt_of_cell? w _ hx453_0)).trans hx453_0
                                      replace hx453_1 := (HB.out.cell (World.block_lt_of_cell? w _ hx453_1)).trans hx453_1
                                      replace p453 := eq_true p453
                                      replace q453 := eq_true q453
                                      have p454 : 0 ≤ (x4_1 : Int) := of_decide_eq_true (by first | (with_reducible assumption) | assumption)
                                      have q454 : x4_1 < (l0.length : Int) := of_decide_eq_true (by first | (with_reducible assumption) | assumption)
                                      obtain ⟨ad454, e454, hx454_0, hx454_1⟩ := at_T47 HR0.out x4_1 p454 q454
                                      obtain rfl : ad443 = ad454 := (by injection e454)
                                      replace hx454_0 := (HB.out.cell (World.block_lt_of_cell? w _ hx454_0)).trans hx454_0
                                      replace hx454_1 := (HB.out.cell (World.block_lt_of_cell? w _ hx454_1)).trans hx454_1
                                      replace p454 := eq_true p454
                                      replace q454 := eq_true q454
                                      have p22 : 0 ≤ (x5_3 : Int) := of_decide_eq_true (by first | (with_reducible assumption) | assumption)
                                      have q22 : x5_3 < (((rd_T47 l0 x4_1).f1).size : Int) := of_decide_eq_true (by first | (with_reducible assumption) | assumption)
                                      have hx22 := bt_at ((rd_T47 l0 x4_1).f1) x5_3
                                      replace p22 := eq_true p22
                                      replace q22 := eq_true q22
                                      go_wp2_with (first | ((with_reducible refine gate_builtin (b := .append) (xs := #[.tmp 56, .tmp 58]) rfl ?_); at_builtin; refine Kd.R_append (Kd.int .u8) (w0 := w) w.heap.size rfl (.tmp 56) (.tmp 58) 73 5 (.int .u8 0) 1 rfl Tryz.underlying73 info5 rfl (by decide) (by omega) u3 x3_3 (bt ((rd_T47 l0 x4_1).f1) x5_3) [.int .u8 (bt ((rd_T47 l0 x4_1).f1) x5_3)] (fun _ => True) (fun _ => False) rfl rfl ?aP (fun _ hk => hk.elim) ?aF ?aO ?aB ?aS ?aL ?_; (case aP => exact rfl); (case aB => exact (by repeat (first | (with_reducible first | exact HB.out | apply below_alloc | apply pw_below_drewN | apply below_drew1) | exact HB.out))); (case aF => exact (fun _ _ => trivial)); (case aO => exact (by (with_reducible repeat (first | apply Kd.R_alloc | apply Kd.R_drewN | apply Kd.R_drew)); exact HO_3.out)); (case aS => exact (below_size (by repeat (first | (with_reducible first | exact HB.out | apply below_alloc | apply pw_below_drewN | apply below_drew1) | exact HB.out)))); (case aL => have := LMc33.out; omega); intro v468 w34 ho hb hg hat; rw [← Ny467.out] at ho; have n0_ := Aside0.mk (hb); have n1_ := Aside0.mk (ho); clear HB; clear HO_3; have HB := n0_; have HO469 := n1_; clear n0_ n1_; clear ho hb hg hat))
                                      go_roundg k3
                                      case measure => have := HK1.out; have := HJ4.out; have := HK3.out; omega
                                      case rel => exact ⟨(y467), (wrap64 (x5_3 + 1)), (by first | rfl | (simp; done) | (simp [*]; done)), H', ⟨by have := HK1.out; have := HJ4.out; have := HK3.out; omega⟩, ⟨by (with_reducible repeat (first | apply Kd.R_alloc | apply Kd.R_drewN | apply Kd.R_drew)); exact HO469.out⟩, ⟨by repeat (first | (with_reducible first | exact HB.out | apply below_alloc | apply pw_below_drewN | apply below_drew1) | exact HB.out)⟩⟩
                                    · rw [if_neg c33] at H
                                      exact absurd H (by simp)
                              · rw [if_neg c21] at H
                                exact absurd H (by simp)
                            · rw [if_neg c20] at H
                              have c20b0 : decide (x5_3 < (((rd_T47 l0 x4_1).f1).size : Int)) = false := decide_eq_false c20
                              clear c20
                              by_cases c35 : x3_3.length < 140737488355328
                              · rw [if_pos c35] at H
                                have LMc35 := Aside0.mk c35
                                clear c35
                                obtain ⟨y470, hy470⟩ : ∃ y_ : List Int, y_ = (x3_3 ++ [34]) := ⟨_, rfl⟩
                                replace H : (refKeyP.l0 k3 l0 y470 (wrap64 (x4_1 + 1))) = some r := by first | (rw [hy470]; with_reducible exact H) | (have H2_ := (Option.bind_some _ _).symm.trans H; rw [hy470]; with_reducible exact H2_) | (have H2_ := (Option.bind_some _ _).symm.trans H; with_reducible exact H2_) | with_reducible exact H | (rw [hy470]; exact H) | exact H
                                have Ny470 := Aside0.mk hy470
                                clear hy470
                                have H' := Aside0.mk H
                                clear H
                                have p453 : 0 ≤ (x4_1 : Int) := of_decide_eq_true (by first | (with_reducible assumption) | assumption)
                                have q453 : x4_1 < (l0.length : Int) := of_decide_eq_true (by first | (with_reducible assumption) | assumption)
                                obtain ⟨ad453, e453, hx453_0, hx453_1⟩ := at_T47 HR0.out x4_1 p453 q453
                                obtain rfl : ad443 = ad453 := (by injection e453)
                                replace hx453_0 := (HB.out.cell (World.block_lt_of_cell? w _ hx453_0)).trans hx453_0
                                replace hx453_1 := (HB.out.cell (World.block_lt_of_cell? w _ hx453_1)).trans hx453_1
                                replace p453 := eq_true p453
                                replace q453 := eq_true q453
                                go_wp2_with (first | ((with_reducible refine gate_builtin (b := .append) (xs := #[.tmp 60, .tmp 61]) rfl ?_); at_builtin; refine Kd.R_append (Kd.int .u8) (w0 := w) w.heap.size rfl (.tmp 60) (.tmp 61) 73 5 (.int .u8 0) 1 rfl Tryz.underlying73 info5 rfl (by decide) (by omega) u3 x3_3 34 [.int .u8 34] (fun _ => True) (fun _ => False) rfl rfl ?aP (fun _ hk => hk.elim) ?aF ?aO ?aB ?aS ?aL ?_; (case aP => exact rfl); (case aB => exact (by repeat (first | (with_reducible first | exact HB.out | apply below_alloc | apply pw_below_drewN | apply below_drew1) | exact HB.out))); (case aF => exact (fun _ _ => trivial)); (case aO => exact (by (with_reducible repeat (first | apply Kd.R_alloc | apply Kd.R_drewN | apply Kd.R_drew)); exact HO_3.out)); (case aS => exact (below_size (by repeat (first | (with_reducible first | exact HB.out | apply below_alloc | apply pw_below_drewN | apply below_drew1) | exact HB.out)))); (case aL => have := LMc35.out; omega); intro v471 w36 ho hb hg hat; rw [← Ny470.out] at ho; have n0_ := Aside0.mk (hb); have n1_ := Aside0.mk (ho); clear HB; clear HO_3; have HB := n0_; have HO472 := n1_; clear n0_ n1_; clear ho hb hg hat))
                                go_roundg k3
                                case measure => have := HK1.out; have := HJ4.out; have := HK3.out; omega
                                case rel => exact ⟨(y470), (wrap64 (x4_1 + 1)), (by first | rfl | (simp; done) | (simp [*]; done)), H', ⟨by have := HK1.out; have := HJ4.out; have := HK3.out; omega⟩, ⟨.inl HO472.out⟩, ⟨by repeat (first | (with_reducible first | exact HB.out | apply below_alloc | apply pw_below_drewN | apply below_drew1) | exact HB.out)⟩⟩
                              · rw [if_neg c35] at H
                                exact absurd H (by simp)
                          · rw [if_neg c19] at H
                            exact absurd H (by simp)
                        · rw [if_neg c18] at H
                          exact absurd H (by simp)
                  · rw [if_neg c12] at H
                    exact absurd H (by simp)
                · rw [if_neg c11] at H
                  exact absurd H (by simp)
              · rw [if_neg c10] at H
                exact absurd H (by simp)
            · rw [if_neg c9] at H
              exact absurd H (by simp)
      · rw [if_neg c4] at H
        have c4b0 : decide (x4_1 < (l0.length : Int)) = false := decide_eq_false c4
        clear c4
        by_cases c37 : x3_1.length < 140737488355328
        · rw [if_pos c37] at H
          have LMc37 := Aside0.mk c37
          clear c37
          obtain ⟨y437, hy437⟩ : ∃ y_ : List Int, y_ = (x3_1 ++ [125]) := ⟨_, rfl⟩
          replace H : (some (strOfNums y437)) = some r := by first | (rw [hy437]; with_reducible exact H) | (have H2_ := (Option.bind_some _ _).symm.trans H; rw [hy437]; with_reducible exact H2_) | (have H2_ := (Option.bind_some _ _).symm.trans H; with_reducible exact H2_) | with_reducible exact H | (rw [hy437]; exact H) | exact H
          have Ny437 := Aside0.mk hy437
          clear hy437
          obtain rfl := Option.some.inj H
          go_wp2_with (first | ((with_reducible refine gate_builtin (b := .append) (xs := #[.tmp 63, .tmp 64]) rfl ?_); at_builtin; refine Kx_append_one (w0 := w) w.heap.size rfl (.tmp 63) (.tmp 64) rfl u3 x3_1 125 rfl rfl HO_3.out HB.out HB.out.size (by have := LMc37.out; omega) ?_; intro v438 w38 ho hb; have hg := True.intro; have hat := True.intro; rw [← Ny437.out] at ho; have n0_ := Aside0.mk (hb); have n1_ := Aside0.mk (ho); clear HB; clear HO_3; have HB := n0_; have HO439 := n1_; clear n0_ n1_; clear ho hb hg hat; have hcv39 := own_string (P := Tryz.prog) Tryz.underlying73 Tryz.underlying5 Tryz.underlying9 (Kd.own_of_R HO439.out)))
          go_ret
          exact ⟨by first | rfl | (simp [errW_none, errW_some] <;> rfl) | (simp [*, errW_none, errW_some] <;> rfl), by repeat (first | (with_reducible first | exact HB.out | apply below_alloc | apply pw_below_drewN | apply below_drew1) | exact HB.out)⟩
        · rw [if_neg c37] at H
          exact absurd H (by simp)

end Go.Proofs.YtmhilolgjcfhjaaGreat.X

/- The document's Key: the same bytes as the program's. -/
namespace Go.Proofs.YtmhilolgjcfhjaaGreat.X
open Go.RowKit Go.Proofs.YtmhilolgjcfhjaaGreatW.PrintWords Go.Proofs.YtmhilolgjcfhjaaGreatW.PrintLast Go.Proofs.YtmhilolgjcfhjaaGreatW.PrintMore

def toI (u : List UInt8) : List Int := u.map fun c => (c.toNat : Int)
theorem toI_app (u v : List UInt8) : toI (u ++ v) = toI u ++ toI v := List.map_append
theorem toI_length (u : List UInt8) : (toI u).length = u.length := List.length_map _
theorem str_toI (u : List UInt8) : strOfNums (toI u) = ⟨u.toArray⟩ := by
  unfold strOfNums toI
  rw [List.map_map]
  congr 2
  rw [List.map_congr_left (g := id) (fun c _ => by simp), List.map_id]
theorem bt_list (s : ByteArray) (j : Nat) (h : j < s.data.toList.length) : bt s j = ((s.data.toList[j]).toNat : Int) := by
  have h' : j < s.size := by simpa using h
  rw [← bt_at s j (by simpa using h')]
  rfl
theorem refKey_l1 (l : List S47) (i : Nat) (hi : i < l.length) (hl : l.length ≤ 65536) (R : ByteArray) : ∀ d j : Nat, ∀ acc : List Int, j + d = l[i].f1.size → j + d ≤ 65536 → acc.length + 2 * d ≤ 100000000000 →
    Ev (fun k => refKeyP.l0 k l (acc ++ toI (escL (l[i].f1.data.toList.drop j)) ++ [34]) ((i + 1 : Nat) : Int)) R → Ev (fun k => refKeyP.l1 k l acc i j) R
  | 0, j, acc, h, hs, hb, hc => by
    refine Ev.step (fun k => by rw [refKeyP.l1]) ?_
    refine Ev.ifp (by omega) (Ev.ifp (by omega) (Ev.ifn (by rw [rd47_at l i hi]; omega) (Ev.ifp (by omega) ?_)))
    rw [List.drop_eq_nil_of_le (by rw [Array.length_toList]; show l[i].f1.size ≤ j; omega), show toI (escL []) = [] from rfl, List.append_nil] at hc
    rw [show wrap64 ((i : Int) + 1) = ((i + 1 : Nat) : Int) by unfold wrap64; omega]
    exact hc
  | d + 1, j, acc, h, hs, hb, hc => by
    have hj : j < l[i].f1.data.toList.length := by rw [Array.length_toList]; show j < l[i].f1.size; omega
    have hbt := bt_list l[i].f1 j hj
    rw [List.drop_eq_getElem_cons hj, escL] at hc
    refine Ev.step (fun k => by rw [refKeyP.l1]) ?_
    refine Ev.ifp (by omega) (Ev.ifp (by omega) (Ev.ifp (by rw [rd47_at l i hi]; omega) (Ev.ifp (by omega) ?_)))
    rw [rd47_at l i hi, hbt, wrap_up j (by omega)]
    generalize l[i].f1.data.toList[j] = c at hc
    by_cases c1 : c = 92
    · subst c1
      rw [if_pos (.inl rfl)] at hc
      refine Ev.ifp rfl (Ev.ifp (by omega) (Ev.bind (Ev.now _) (Ev.ifp (by rw [List.length_append, List.length_singleton]; omega) ?_)))
      refine refKey_l1 l i hi hl R d (j + 1) _ (by omega) (by omega) (by simp only [List.length_append, List.length_singleton]; omega) ?_
      simpa [toI, List.append_assoc] using hc
    · by_cases c2 : c = 34
      · subst c2
        rw [if_pos (.inr rfl)] at hc
        refine Ev.ifn (by decide) (Ev.ifp rfl (Ev.ifp (by omega) (Ev.bind (Ev.now _) (Ev.ifp (by rw [List.length_append, List.length_singleton]; omega) ?_))))
        refine refKey_l1 l i hi hl R d (j + 1) _ (by omega) (by omega) (by simp only [List.length_append, List.length_singleton]; omega) ?_
        simpa [toI, List.append_assoc] using hc
      · rw [if_neg (fun q => q.elim c1 c2)] at hc
        have e1 : ¬ ((c.toNat : Int) = 92) := fun q => by
          have h2 : c.toNat = 92 := by omega
          exact c1 (UInt8.toNat_inj.1 h2)
        have e2 : ¬ ((c.toNat : Int) = 34) := fun q => by
          have h2 : c.toNat = 34 := by omega
          exact c2 (UInt8.toNat_inj.1 h2)
        refine Ev.ifn e1 (Ev.ifn e2 (Ev.ifp (by omega) ?_))
        refine refKey_l1 l i hi hl R d (j + 1) _ (by omega) (by omega) (by simp only [List.length_append, List.length_singleton]; omega) ?_
        simpa [toI, List.append_assoc] using hc
theorem ent_size (x : S47) (h0 : x.f0.size ≤ 65536) (h1 : x.f1.size ≤ 65536) : (entL x).length ≤ 196612 := by
  rw [← entS_data]; exact entS_le x h0 h1
theorem refKey_j1 (l : List S47) (hf : fitsKey l) (i : Nat) (hi : i < l.length) (acc : List Int) (ha : acc.length ≤ 90000000000) (R : ByteArray) (h : Ev (fun k => refKeyP.l0 k l (acc ++ toI (entL l[i])) ((i + 1 : Nat) : Int)) R) :
    Ev (fun k => refKeyP.j1 k l acc i) R := by
  have hs := hf.2 l[i] (List.getElem_mem hi)
  have hl := hf.1
  refine Ev.step (fun k => by rw [refKeyP.j1]) ?_
  refine Ev.ifp (by omega) (Ev.ifp (by omega) (Ev.ifp (by rw [rd47_at l i hi]; omega) (Ev.bind (Ev.now _) (Ev.bind (Ev.now _) (Ev.ifp ?_ ?_)))))
  · rw [rd47_at l i hi, List.length_append, bytesOf_length]; show _ + 2 < _; omega
  · refine refKey_l1 l i hi hl R l[i].f1.size 0 _ (by omega) (by omega) ?_ ?_
    · rw [rd47_at l i hi, List.length_append, List.length_append, bytesOf_length]; show _ + 2 + _ ≤ _; omega
    · rw [rd47_at l i hi, List.drop_zero]
      have e : acc ++ bytesOf l[i].f0 ++ [61, 34] ++ toI (escL l[i].f1.data.toList) ++ [34] = acc ++ toI (entL l[i]) := by
        unfold entL bytesOf toI
        simp [List.append_assoc]
      rw [e]
      exact h
theorem refKey_l0 (l : List S47) (hf : fitsKey l) : ∀ d i : Nat, ∀ acc : List Int, i + d = l.length → 0 < i → acc.length ≤ i * 196613 + 1 →
    Ev (fun k => refKeyP.l0 k l acc i) (strOfNums (acc ++ toI (Lib.joinTail [44] ((l.drop i).map entL)) ++ [125]))
  | 0, i, acc, h, h0, ha => by
    have := hf.1
    refine Ev.step (fun k => by rw [refKeyP.l0]) ?_
    refine Ev.ifn (by omega) (Ev.ifp (by omega) ?_)
    rw [List.drop_eq_nil_of_le (by omega), show toI (Lib.joinTail [44] (([] : List S47).map entL)) = [] from rfl, List.append_nil]
    exact Ev.now _
  | d + 1, i, acc, h, h0, ha => by
    have hl := hf.1
    have hi : i < l.length := by omega
    have hs := hf.2 l[i] (List.getElem_mem hi)
    have he := ent_size l[i] hs.1 hs.2
    have ih := refKey_l0 l hf d (i + 1) (acc ++ [44] ++ toI (entL l[i])) (by omega) (by omega) (by rw [List.length_append, List.length_append, toI_length]; show _ + 1 + _ ≤ _; omega)
    refine Ev.step (fun k => by rw [refKeyP.l0]) ?_
    refine Ev.ifp (by omega) (Ev.ifp (by omega) (Ev.ifp (by omega) ?_))
    refine refKey_j1 l hf i hi _ (by rw [List.length_append]; show _ + 1 ≤ _; omega) _ ?_
    rw [List.drop_eq_getElem_cons hi, tail_cons, show acc ++ toI (44 :: (entL l[i] ++ Lib.joinTail [44] ((l.drop (i + 1)).map entL))) = acc ++ [44] ++ toI (entL l[i]) ++ toI (Lib.joinTail [44] ((l.drop (i + 1)).map entL)) by unfold toI; simp [List.append_assoc]]
    exact ih
theorem refKey_ev (l : List S47) (hf : fitsKey l) : Ev (fun k => refKeyP.f k l) (keyB l) := by
  have hk : keyB l = strOfNums (toI (keyL l)) := by
    rw [str_toI]
    exact bytes_ext _ _ (by rw [← ByteArray.toList_eq, keyB_list])
  unfold refKeyP.f
  by_cases h0 : l = []
  · subst h0
    rw [hk]
    refine Ev.step (fun k => by rw [refKeyP.l0]) ?_
    exact Ev.ifn (by decide) (Ev.ifp (by decide) (Ev.now _))
  · have hi : 0 < l.length := List.length_pos_iff.2 h0
    have hs := hf.2 l[0] (List.getElem_mem hi)
    have he := ent_size l[0] hs.1 hs.2
    refine Ev.step (fun k => by rw [refKeyP.l0]) ?_
    refine Ev.ifp (by omega) (Ev.ifn (by decide) ?_)
    refine refKey_j1 l hf 0 hi _ (by decide) _ ?_
    have := refKey_l0 l hf (l.length - 1) 1 (([123] : List Int) ++ toI (entL l[0])) (by omega) (by omega) (by rw [List.length_append, toI_length]; show 1 + _ ≤ _; omega)
    have e : keyL l = (123 : UInt8) :: (entL l[0] ++ Lib.joinTail [44] ((l.drop 1).map entL) ++ [125]) := by
      unfold keyL
      obtain ⟨x, r, rfl⟩ := List.exists_cons_of_ne_nil h0
      rw [List.map_cons, Lib.join_cons]
      rfl
    rw [hk, e, show toI ((123 : UInt8) :: (entL l[0] ++ Lib.joinTail [44] ((l.drop 1).map entL) ++ [125])) = ([123] : List Int) ++ toI (entL l[0]) ++ toI (Lib.joinTail [44] ((l.drop 1).map entL)) ++ [125] by unfold toI; simp [List.append_assoc]]
    exact this
/-- Asked of sets alone. -/
def klaxonref09_Key.f (l0 : List S47) : Option ByteArray := if fitsKey l0 ∧ ∀ x ∈ l0, 1 ≤ x.f0.size then some (keyB l0) else none
theorem klaxonref09_Key.calls (A0 : Option Addr) (c0 : Nat) (l0 : List (S47)) (r : ByteArray) (w : World) (hr0 : Kd.C k47 w A0 l0.length l0) (hc0 : l0.length ≤ c0) (h : klaxonref09_Key.f l0 = some r) :
    Calls Tryz.prog 34 #[.slice A0 l0.length c0] w fun e w' => e = .returned (.string r) ∧ Below w.heap.size w w' := by
  unfold klaxonref09_Key.f at h
  by_cases hf : fitsKey l0 ∧ ∀ x ∈ l0, 1 ≤ x.f0.size
  · rw [if_pos hf] at h
    obtain rfl := Option.some.inj h
    obtain ⟨k, hk⟩ := (refKey_ev l0 hf.1).rounds
    exact refKeyP.calls k A0 c0 l0 _ w hr0 hc0 hf.2 hk
  · rw [if_neg hf] at h; cases h
theorem IsSet.refKey_f {l : List S47} (h : IsSet l) : klaxonref09_Key.f l = some (keyB l) := by
  unfold klaxonref09_Key.f
  rw [if_pos ⟨h.fitsKey, fun x hx => (good_sizes x (h.good x hx)).1⟩]
end Go.Proofs.YtmhilolgjcfhjaaGreat.X
