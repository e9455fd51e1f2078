/- The document's Make: what it answers in plain Lean. -/
import Derived.Test.YtmhilolgjcfhjaaGreatPA
import Derived.Lib.QuietBelow
import Derived.WalkLawsBesides
set_option linter.unusedVariables false
set_option linter.unusedSimpArgs false

/- Insertion into a list in order, in plain Lean: what the document's Make does, label by label. -/
namespace Go.Proofs.YtmhilolgjcfhjaaGreat.X
open Go.RowKit Go.Proofs.YtmhilolgjcfhjaaGreatW.PrintWords Go.Proofs.YtmhilolgjcfhjaaGreatW.PrintLast Go.Proofs.YtmhilolgjcfhjaaGreatW.PrintMore

def insAt (out : List S47) (k : Nat) (x : S47) : List S47 := out.take k ++ [x] ++ out.drop k
theorem insAt_perm (out : List S47) (k : Nat) (x : S47) : (insAt out k x).Perm (x :: out) := by
  unfold insAt
  rw [List.append_assoc, List.singleton_append]
  refine List.perm_middle.trans ?_
  rw [List.take_append_drop]
theorem le_at (out : List S47) (hs : out.Pairwise (fun x y => leN x y = true)) (k : Nat) (hk : k < out.length) : ∀ y ∈ out.drop k, cmpS out[k].f0 y.f0 ≤ 0 := by
  intro y hy
  obtain ⟨j, hj, rfl⟩ := List.getElem_of_mem hy
  rw [List.getElem_drop]
  rw [List.length_drop] at hj
  by_cases e : j = 0
  · subst e; rw [show out[k + 0] = out[k] from rfl, cmpS_self]; omega
  · have := List.pairwise_iff_getElem.1 hs k (k + j) hk (by omega) (by omega)
    rwa [leN_iff] at this
theorem insAt_sorted (out : List S47) (hs : out.Pairwise (fun x y => leN x y = true)) (k : Nat) (x : S47) (hk : k ≤ out.length)
    (h1 : ∀ j, (hj : j < out.length) → j < k → cmpS out[j].f0 x.f0 < 0) (h2 : (h : k < out.length) → 0 < cmpS out[k].f0 x.f0) : (insAt out k x).Pairwise (fun x y => leN x y = true) := by
  have hx : ∀ y ∈ out.drop k, cmpS x.f0 y.f0 ≤ 0 := by
    intro y hy
    have hlt : k < out.length := by
      rcases Nat.lt_or_ge k out.length with h | h
      · exact h
      · rw [List.drop_eq_nil_of_le h] at hy; cases hy
    have h3 := le_at out hs k hlt y hy
    have h4 := h2 hlt
    have h5 := cmpS_swap x.f0 out[k].f0
    exact (cmpS_trans _ _ _ (by omega) h3).1
  have ht : ∀ y ∈ out.take k, cmpS y.f0 x.f0 < 0 := by
    intro y hy
    obtain ⟨j, hj, rfl⟩ := List.getElem_of_mem hy
    rw [List.length_take] at hj
    rw [List.getElem_take]
    exact h1 j (by omega) (by omega)
  have h0 : (out.take k ++ out.drop k).Pairwise (fun x y => leN x y = true) := by rw [List.take_append_drop]; exact hs
  rw [List.pairwise_append] at h0
  unfold insAt
  rw [List.append_assoc, List.singleton_append, List.pairwise_append, List.pairwise_cons]
  refine ⟨h0.1, ⟨fun y hy => (leN_iff _ _).2 (hx y hy), h0.2.1⟩, fun a ha b hb => ?_⟩
  rcases List.mem_cons.1 hb with rfl | hb
  · exact (leN_iff _ _).2 (Int.le_of_lt (ht a ha))
  · exact h0.2.2 a ha b hb
theorem ins_fresh (out : List S47) (hs : out.Pairwise (fun x y => leN x y = true)) (k : Nat) (x : S47) (hk : k ≤ out.length)
    (h1 : ∀ j, (hj : j < out.length) → j < k → cmpS out[j].f0 x.f0 < 0) (h2 : (h : k < out.length) → 0 < cmpS out[k].f0 x.f0) : ∀ y ∈ out, y.f0 ≠ x.f0 := by
  intro y hy e
  rw [← List.take_append_drop k out] at hy
  rcases List.mem_append.1 hy with hy | hy
  · obtain ⟨j, hj, rfl⟩ := List.getElem_of_mem hy
    rw [List.length_take] at hj
    rw [List.getElem_take] at e
    have := h1 j (by omega) (by omega)
    rw [e, cmpS_self] at this
    omega
  · have hlt : k < out.length := by
      rcases Nat.lt_or_ge k out.length with h | h
      · exact h
      · rw [List.drop_eq_nil_of_le h] at hy; cases hy
    have h3 := le_at out hs k hlt y hy
    have h4 := h2 hlt
    rw [e] at h3
    omega
/-- One label more. -/
theorem ins_step (l : List S47) (i : Nat) (hi : i < l.length) (hn : ((l.take i).map (·.f0)).Nodup) (k : Nat) (hk : k ≤ (srt (l.take i)).length)
    (h1 : ∀ j, (hj : j < (srt (l.take i)).length) → j < k → cmpS (srt (l.take i))[j].f0 l[i].f0 < 0) (h2 : (h : k < (srt (l.take i)).length) → 0 < cmpS (srt (l.take i))[k].f0 l[i].f0) :
    ((l.take (i + 1)).map (·.f0)).Nodup ∧ srt (l.take (i + 1)) = insAt (srt (l.take i)) k l[i] := by
  have hs := srt_sorted (l.take i)
  have hf := ins_fresh _ hs k l[i] hk h1 h2
  have et : l.take (i + 1) = l.take i ++ [l[i]] := List.take_succ_eq_append_getElem hi
  have hp : (insAt (srt (l.take i)) k l[i]).Perm (l.take (i + 1)) := by
    refine (insAt_perm _ _ _).trans ?_
    rw [et]
    exact (List.Perm.cons _ (srt_perm _)).trans (List.perm_append_singleton _ _).symm
  have hn' : ((l.take (i + 1)).map (·.f0)).Nodup := by
    rw [et, List.map_append, List.nodup_append]
    refine ⟨hn, by simp, fun a ha b hb => ?_⟩
    obtain ⟨y, hy, rfl⟩ := List.mem_map.1 ha
    rw [List.map_singleton, List.mem_singleton] at hb
    subst hb
    exact hf y ((srt_perm _).mem_iff.2 hy)
  exact ⟨hn', (srt_unique _ _ hn' hp (insAt_sorted _ hs k _ hk h1 h2)).symm⟩
/-- A name twice. -/
theorem ins_dup (l : List S47) (hg : ∀ j, (hj : j < l.length) → badB l[j] = false) (i : Nat) (hi : i < l.length) (k : Nat) (hk : k < (srt (l.take i)).length) (h : cmpS (srt (l.take i))[k].f0 l[i].f0 = 0) : makeB l = ([], 8) := by
  unfold makeB
  rw [if_neg, if_pos]
  · intro hn
    have hm : (srt (l.take i))[k] ∈ l.take i := (srt_perm _).mem_iff.1 (List.getElem_mem hk)
    have e := (cmpS_eq _ _).1 h
    obtain ⟨j, hj, ej⟩ := List.getElem_of_mem hm
    rw [List.length_take] at hj
    rw [List.getElem_take] at ej
    have := (List.getElem_inj (xs := l.map (·.f0)) (h₀ := by rw [List.length_map]; omega) (h₁ := by rw [List.length_map]; omega) hn (i := j) (j := i)).1 (by rw [List.getElem_map, List.getElem_map, ej, e])
    omega
  · rw [Bool.not_eq_true, List.any_eq_false]
    intro x hx
    obtain ⟨j, hj, rfl⟩ := List.getElem_of_mem hx
    rw [hg j hj]; simp
theorem ins_bad (l : List S47) (i : Nat) (hi : i < l.length) (h : badB l[i] = true) : makeB l = ([], 90) := by
  unfold makeB
  rw [if_pos (List.any_eq_true.2 ⟨l[i], List.getElem_mem hi, h⟩)]
theorem ins_end (l : List S47) (hg : ∀ j, (hj : j < l.length) → badB l[j] = false) (hn : (l.map (·.f0)).Nodup) : makeB l = if 16 < l.length then ([], 6) else (srt l, 0) := by
  unfold makeB
  rw [if_neg, if_neg (fun q => q hn)]
  rw [Bool.not_eq_true, List.any_eq_false]
  intro x hx
  obtain ⟨j, hj, rfl⟩ := List.getElem_of_mem hx
  rw [hg j hj]; simp
end Go.Proofs.YtmhilolgjcfhjaaGreat.X

/- The document's Make: the same plain answer as the program's. -/
namespace Go.Proofs.YtmhilolgjcfhjaaGreat.X
open Go.RowKit Go.Proofs.YtmhilolgjcfhjaaGreatW.PrintWords Go.Proofs.YtmhilolgjcfhjaaGreatW.PrintLast Go.Proofs.YtmhilolgjcfhjaaGreatW.PrintMore
attribute [local go_sem] max2_int min2_int max_two min_two max_three min_three max_four min_four

/-- Asked of few labels alone. -/
def fitsRM (l : List S47) : Prop := l.length ≤ 65536 ∧ ∀ x ∈ l, x.f0.size ≤ 4611686018427387904
instance (l : List S47) : Decidable (fitsRM l) := by unfold fitsRM; infer_instance
def klaxonref09_Make.f (l0 : List S47) : Option (List S47 × Int) := if fitsRM l0 then some (makeB l0) else none

/-! ### Rows of labels, and what an append leaves of them -/
def NE (u v : Value) : Prop := ∀ k, u.ownBlock = some k → v.ownBlock ≠ some k
theorem ne_swap {u v : Value} (h : NE u v) : NE v u := fun k hk e => h k e hk
section
variable {base : Nat} {ok ok' : Nat → Prop} {W w1 : World} {u v v1 : Value} {xs ys zs : List S47} {e : Nat}
theorem R47_any (h : Kd.R k47 e W base ok v xs) (h' : ∀ k, v.ownBlock = some k → ok' k) : Kd.R k47 e W base ok' v xs := ⟨h', h.2⟩
theorem R47_grown {row : Option Nat} (h : Kd.R k47 e W base ok u zs) (hg : W.grownBy w1 row) (hne : ∀ k, u.ownBlock = some k → row ≠ some k) : Kd.R k47 e w1 base (fun _ => True) u zs :=
  R47_any (Kd.R_grown (R47_any (ok' := fun k => row ≠ some k) h hne) hg (fun _ hk e => hk e.symm)) (fun _ _ => trivial)
theorem ne_new (h : Kd.R k47 e W base ok u zs) (hb : ∀ k, v.ownBlock = some k → W.heap.size ≤ k) : NE u v := fun k hk e => by
  have h1 := Kd.R_lt h k hk
  have h2 := hb k e
  omega
theorem ne_hat (hn : NE u v) (h : Kd.R k47 e W base ok u zs) (hat : v1.ownBlock = v.ownBlock ∨ ∃ b, v1.ownBlock = some b ∧ W.heap.size ≤ b) : NE u v1 := fun k hk e => by
  rcases hat with hat | ⟨b, hb, hle⟩
  · exact hn k hk (hat ▸ e)
  · have h1 := Kd.R_lt h k hk
    rw [hb] at e
    injection e with e
    omega
end
section
variable {ops : Array Oper} {o : Oper} {a : Act} {Q : Exit → Act → World → Prop} {Kc : Act → World → Prop}
/-- append(v, ys...), of labels. -/
theorem app_step {w0 W : World} (base : Nat) (hw : Region.wanted o (yielded ops a.tmps) = true) (s x : Operand)
    (ho : o.op = .call { callee := .builtin .append, args := #[s, x], argTypes := #[22, 22] }) (v : Value) (xs ys : List S47) (A : Option Addr) (m c : Nat) (hs : a.eval s = v) (hx : a.eval x = .slice A m c)
    (HO : Kd.R k47 47 W base (fun _ => True) v xs) (HR : Kd.C k47 W A m ys) (HB : Below base w0 W) (hbase : base ≤ W.heap.size) (hl : xs.length + ys.length ≤ 1000000)
    (h : ∀ v1 w1, Kd.R k47 47 w1 base (fun _ => True) v1 (xs ++ ys) → Below base w0 w1 → W.grownBy w1 v.ownBlock → (v1.ownBlock = v.ownBlock ∨ ∃ b, v1.ownBlock = some b ∧ W.heap.size ≤ b) → Kc (a.put o.dst v1) w1) :
    if Region.wanted o (yielded ops a.tmps) = true then Oper.wp Tryz.prog o a W Kc Q else Kc (a.put o.dst undef) W := by
  have hm : ys.length = m := HR.1
  exact Kd.R_append_rows_step k47 (w0 := w0) base hw s x 22 47 (.agg #[(.string ⟨#[]⟩), (.string ⟨#[]⟩)]) 32 ho Tryz.underlying22 info47 rfl (by decide) (by omega) v xs ys A m c (fun _ => True) (fun k => some k ≠ v.ownBlock) hs hx HO HR (fun _ _ h => h) (fun k hk => ⟨trivial, hk⟩) (fun _ _ => trivial) HB hbase (by omega) h
end
def refMake_T15 : Bool × List (List Nat × List Nat) := (true, [([], []), ([], []), ([], []), ([1, 2], [1, 2]), ([0, 3], [0, 3]), ([], []), ([], []), ([5, 6], [5, 6]), ([7], [7]), ([8], [8]), ([4, 9, 4], [4, 9]), ([], []), ([], []), ([11, 12], [11, 12]), ([10, 13, 10], [10, 13]), ([14, 14, 0, 1, 2, 3, 4, 5, 6, 7, 8, 9, 10, 11, 12, 13, 14], [1, 11, 14])])
def refMake_B15 : List Nat := [0, 0, 0, 6, 15, 0, 0, 96, 224, 480, 1023, 0, 0, 6144, 16383, 32767]
theorem refMake_tab15 : rtab .any (opsOf Tryz.f14 15) = refMake_T15 := by kernel_rfl
theorem refMake_bits15 : waitsOk refMake_T15.2 refMake_B15 = true := by kernel_rfl
/-- xs[:k], xs[k:]. -/
theorem cut_a (A : Option Addr) (n c k : Nat) (h : k ≤ c) (W : World) : (Instr.slice 22 (.slice A n c) none (some (.int .i64 (k : Int))) none).run Tryz.prog W = .ok (.slice A k c) W := by
  have hel : Tryz.prog.elem 22 = 47 := by simp [Program.elem, Tryz.underlying22]
  have hu : Tryz.prog.underlying 22 = some (.slice (Tryz.prog.elem 22)) := by rw [hel]; exact Tryz.underlying22
  obtain ⟨i0, hi, hzz⟩ := Option.map_eq_some_iff.1 info47
  rw [run_slice_h W 22 A n c hu .i64 (k : Int) (by omega) (by omega), hel]
  rcases A with _ | ad
  · simp [sizeOf, typeInfo, hi, sliced, Result.andThen]
  · by_cases hc : c = 0 <;> simp [sizeOf, typeInfo, hi, sliced, Result.andThen, Addr.add, hc]
theorem cut_b (A : Option Addr) (n c k : Nat) (h : k ≤ n) (W : World) : (Instr.slice 22 (.slice A n c) (some (.int .i64 (k : Int))) none none).run Tryz.prog W = .ok (.slice (if c = k then A else A.map (·.add (k * 2))) (n - k) (c - k)) W := by
  have hel : Tryz.prog.elem 22 = 47 := by simp [Program.elem, Tryz.underlying22]
  have hu : Tryz.prog.underlying 22 = some (.slice (Tryz.prog.elem 22)) := by rw [hel]; exact Tryz.underlying22
  obtain ⟨i0, hi, hzz⟩ := Option.map_eq_some_iff.1 info47
  simp only [Prod.mk.injEq] at hzz
  rw [run_slice_l W 22 A n c hu .i64 (k : Int) (by omega) (by omega), hel]
  simp [sizeOf, typeInfo, hi, sliced, hzz.2.1, Result.andThen]

set_option maxHeartbeats 4000000 in
set_option maxRecDepth 100000 in
theorem klaxonref09_Make.calls (A0 : Option Addr) (c0 : Nat) (l0 : List (S47)) (r1 : List (S47)) (r2 : Int) (w : World) (hr0 : Kd.C k47 w A0 l0.length l0) (hc0 : l0.length ≤ c0) (h : klaxonref09_Make.f l0 = some (r1, r2)) :
    Calls Tryz.prog 14 #[.slice A0 l0.length c0] w fun e w' => ∃ v0_ : Value, e = .returned (.tuple #[v0_, .int .i64 r2]) ∧ Kd.R k47 47 w' w.heap.size (fun _ => True) v0_ r1 ∧ Below w.heap.size w w' := by
  unfold klaxonref09_Make.f at h
  by_cases hf : fitsRM l0
  · rw [if_pos hf] at h
    have HH := Aside0.mk (Option.some.inj h)
    have hu47 := Tryz.underlying47
    have HR := Aside0.mk hr0
    have HF := Aside0.mk hf
    have n1 : l0.length ≤ 65536 := hf.1
    clear h hr0 hf
    go_enter Tryz.func14, Tryz.ntmps14
    go_wp2_with fail
    go_loopg [4] l0.length (fun gg v4 wr => ∃ i : Nat, v4 = .int .i64 i ∧ i ≤ l0.length ∧ Aside0 (l0.length - i ≤ gg) ∧ Aside0 (Below w.heap.size w wr) ∧ Aside0 (∀ j, (hj : j < l0.length) → j < i → badB l0[j] = false))
    case atStart => exact ⟨0, rfl, by omega, ⟨by omega⟩, ⟨Below.refl _ _⟩, ⟨fun j hj h => absurd h (by omega)⟩⟩
    case round =>
    obtain ⟨i, rfl, p1, HG, HB, HA⟩ := hrel
    have hG := HG.out
    by_cases hlt : (i : Int) < (l0.length : Int)
    · obtain ⟨ad, e0, hx0, hx1⟩ := at_T47 (Kd.C_below HR.out HB.out) i (by omega) hlt
      cases e0
      simp only [Int.toNat_natCast] at hx0 hx1
      have HX := Aside0.mk (show rd_T47 l0 i = l0[i] by rw [rd47_eq l0 i (by omega) hlt]; rfl)
      have HC := Aside0.mk (fun W => refIs_call (rd_T47 l0 i) W (HF.out.2 _ (rd47_mem l0 i (by omega) hlt)))
      by_cases hb : badB (rd_T47 l0 i) = true
      · have HE := ins_bad l0 i (by omega) (by rw [← HX.out]; exact hb)
        obtain ⟨rfl, rfl⟩ := Prod.mk.inj (HE.symm.trans HH.out)
        clear HE
        rw [hb] at HC
        clear hb
        go_wp2_with (go_at_call 42; refine (HC.out _).mono ?_; rintro e w2 ⟨rfl, hb2⟩)
        go_ret2
        exact ⟨_, rfl, Kd.R_nil _ _ _ _ _, HB.out.trans (hb2.mono HB.out.size)⟩
      · have hb3 : badB (rd_T47 l0 i) = false := by simpa using hb
        rw [hb3] at HC
        have HBD := Aside0.mk hb3
        clear hb hb3
        go_wp2_with (go_at_call 42; refine (HC.out _).mono ?_; rintro e w2 ⟨rfl, hb2⟩)
        have HB2 := Aside0.mk (HB.out.trans (hb2.mono HB.out.size))
        go_roundg (l0.length - (i + 1))
        case measure => omega
        case rel =>
          refine ⟨i + 1, by go_num, by omega, ⟨by omega⟩, ⟨HB2.out⟩, ⟨fun j hj h => ?_⟩⟩
          by_cases e : j < i
          · exact HA.out j hj e
          · obtain rfl : j = i := by omega
            rw [← HX.out]; exact HBD.out
    · have HA2 := Aside0.mk (show ∀ j, (hj : j < l0.length) → badB l0[j] = false from fun j hj => HA.out j hj (by omega))
      have HBw := Aside0.mk HB.out
      clear HA HG hG HB
      go_wp2_with fail
      clear hlt
      go_loopg [5, 6, 7] l0.length (fun gg v5 v6 _ wr => ∃ i : Nat, v6 = .int .i64 i ∧ i ≤ l0.length ∧ Aside0 (l0.length - i ≤ gg) ∧ Aside0 (Below w.heap.size w wr) ∧ Aside0 (((l0.take i).map (·.f0)).Nodup) ∧ Aside0 (Kd.R k47 47 wr w.heap.size (fun _ => True) v5 (srt (l0.take i))))
      case atStart => exact ⟨0, rfl, by omega, ⟨by omega⟩, ⟨HBw.out⟩, ⟨by rw [List.take_zero]; exact List.nodup_nil⟩, ⟨by rw [List.take_zero, show srt [] = [] from List.mergeSort_nil]; exact Kd.R_nil _ _ _ _ _⟩⟩
      case round =>
      clear HBw p1
      obtain ⟨i, rfl, p1, HG, HB, HN, HO⟩ := hrel
      have hG := HG.out
      obtain ⟨out, hout⟩ : ∃ out, out = srt (l0.take i) := ⟨_, rfl⟩
      have HOUT := Aside0.mk hout
      rw [← hout] at HO
      have hlen : out.length = i := by rw [hout, (srt_perm _).length_eq, List.length_take]; omega
      clear hout
      obtain ⟨Av, cv, e5⟩ := Kd.R_slice HO.out
      subst e5
      by_cases hlt : (i : Int) < (l0.length : Int)
      · have hi0 : i < l0.length := by omega
        obtain ⟨ad, e0, hx0, hx1⟩ := at_T47 (Kd.C_below HR.out HB.out) i (by omega) hlt
        cases e0
        simp only [Int.toNat_natCast] at hx0 hx1
        obtain ⟨x, hx⟩ : ∃ x, x = rd_T47 l0 i := ⟨_, rfl⟩
        have HX := Aside0.mk (show x = l0[i]'hi0 by rw [hx, rd47_eq l0 i (by omega) hlt]; rfl)
        rw [← hx] at hx0 hx1
        have HXR := Aside0.mk hx.symm
        have HX0 := Aside0.mk hx0
        have HX1 := Aside0.mk hx1
        have HLEN := Aside0.mk hlen
        have hl2 : out.length ≤ 65536 := by omega
        clear hx hx0 hx1 hlen
        go_wp2_with fail
        go_loopg [7] out.length (fun gg v7 wq => ∃ k : Nat, v7 = .int .i64 k ∧ k ≤ out.length ∧ Aside0 (out.length - k ≤ gg) ∧ Aside0 (Below wr.heap.size wr wq) ∧ Aside0 (∀ j, (hj : j < out.length) → j < k → cmpS out[j].f0 x.f0 < 0))
        case atStart => exact ⟨0, rfl, by omega, ⟨by omega⟩, ⟨Below.refl _ _⟩, ⟨fun j hj h => absurd h (by omega)⟩⟩
        case round =>
        obtain ⟨k, rfl, q1, HG1, HB1, HK⟩ := hrel
        have hG1 := HG1.out
        have hz0 := (HB1.out.cell (block_lt_of_cell HX0.out)).trans HX0.out
        have m0 := cell_regrown hz0
        by_cases hk : (k : Int) < (out.length : Int)
        · obtain ⟨ao, e1, hy0, hy1⟩ := at_T47 (Kd.C_below (Kd.R_reads' HO.out).2.2 HB1.out) k (by omega) hk
          cases e1
          simp only [Int.toNat_natCast] at hy0
          have n0 := cell_regrown hy0
          have HY0 := Aside0.mk hy0
          have HY := Aside0.mk (show rd_T47 out k = out[k] by rw [rd47_eq out k (by omega) hk]; rfl)
          have b1 := less_cmpS (rd_T47 out k).f0 x.f0
          have b2 := eqL_cmpS (rd_T47 out k).f0 x.f0
          clear hy0 hy1 hz0
          by_cases hs : cmpS (rd_T47 out k).f0 x.f0 < 0
          · rw [decide_eq_true hs] at b1
            have HS := Aside0.mk hs
            clear hs b2
            go_wp2_with fail
            refine wp_region_quiet_below (by kernel_rfl) (by kernel_rfl) ?_
            repeat (go_big_quiet_step (fail))
            refine wpQuiet_nil ?_
            intro _ hw'
            obtain ⟨⟨dq, osq⟩, hw''⟩ := hw'
            subst hw''
            have hbq := below_regrown wr dq osq
            generalize Go.Sort.grow (redrawn wr dq) osq = w3 at hbq ⊢
            have HB2 := Aside0.mk (HB1.out.trans (hbq.mono HB1.out.size))
            clear hbq
            clear m0 n0 b1
            go_wp2_with fail
            go_roundg (out.length - (k + 1))
            case measure => omega
            case rel =>
              refine ⟨k + 1, by go_num, by omega, ⟨by omega⟩, ⟨HB2.out⟩, ⟨fun j hj h => ?_⟩⟩
              by_cases e : j < k
              · exact HK.out j hj e
              · obtain rfl : j = k := by omega
                rw [← HY.out]; exact HS.out
          · rw [decide_eq_false hs] at b1
            have HS := Aside0.mk hs
            by_cases he : cmpS (rd_T47 out k).f0 x.f0 = 0
            · rw [decide_eq_true he] at b2
              have HE := ins_dup l0 HA2.out i hi0 k (by rw [← HOUT.out]; omega) (by
                rw [← HX.out, ← he, HY.out]
                congr 2
                simp only [HOUT.out])
              obtain ⟨rfl, rfl⟩ := Prod.mk.inj (HE.symm.trans HH.out)
              clear HE hs he
              go_wp2_with fail
              refine wp_region_quiet_below (by kernel_rfl) (by kernel_rfl) ?_
              repeat (go_big_quiet_step (fail))
              refine wpQuiet_nil ?_
              intro _ hw'
              obtain ⟨⟨dq, osq⟩, hw''⟩ := hw'
              subst hw''
              have hbq := below_regrown wr dq osq
              generalize Go.Sort.grow (redrawn wr dq) osq = w3 at hbq ⊢
              have HB2 := Aside0.mk (HB1.out.trans (hbq.mono HB1.out.size))
              clear hbq
              clear m0 n0 b1
              have m1 := cell_regrown ((HB2.out.cell (block_lt_of_cell HX0.out)).trans HX0.out)
              obtain ⟨ao2, e2, hy2, hy3⟩ := at_T47 (Kd.C_below (Kd.R_reads' HO.out).2.2 HB2.out) k (by omega) hk
              cases e2
              simp only [Int.toNat_natCast] at hy2
              have n2 := cell_regrown hy2
              clear hy2 hy3
              go_wp2_with fail
              refine wp_region_quiet_below (by kernel_rfl) (by kernel_rfl) ?_
              repeat (go_big_quiet_step (fail))
              refine wpQuiet_nil ?_
              intro _ hw'
              obtain ⟨⟨dq, osq⟩, hw''⟩ := hw'
              subst hw''
              have hbq := below_regrown w3 dq osq
              generalize Go.Sort.grow (redrawn w3 dq) osq = w4 at hbq ⊢
              have HB3 := Aside0.mk (HB2.out.trans (hbq.mono HB2.out.size))
              clear hbq
              clear m1 n2 b2
              go_wp2_with fail
              go_ret2
              exact ⟨_, rfl, Kd.R_nil _ _ _ _ _, HB.out.trans (HB3.out.mono HB.out.size)⟩
            · rw [decide_eq_false he] at b2
              have HGT := Aside0.mk (show (h : k < out.length) → 0 < cmpS out[k].f0 x.f0 from fun h => by rw [← HY.out]; omega)
              clear hs he HS
              go_wp2_with fail
              refine wp_region_quiet_below (by kernel_rfl) (by kernel_rfl) ?_
              repeat (go_big_quiet_step (fail))
              refine wpQuiet_nil ?_
              intro _ hw'
              obtain ⟨⟨dq, osq⟩, hw''⟩ := hw'
              subst hw''
              have hbq := below_regrown wr dq osq
              generalize Go.Sort.grow (redrawn wr dq) osq = w3 at hbq ⊢
              have HB2 := Aside0.mk (HB1.out.trans (hbq.mono HB1.out.size))
              clear hbq
              clear m0 n0 b1
              have m1 := cell_regrown ((HB2.out.cell (block_lt_of_cell HX0.out)).trans HX0.out)
              obtain ⟨ao2, e2, hy2, hy3⟩ := at_T47 (Kd.C_below (Kd.R_reads' HO.out).2.2 HB2.out) k (by omega) hk
              cases e2
              simp only [Int.toNat_natCast] at hy2
              have n2 := cell_regrown hy2
              clear hy2 hy3
              go_wp2_with fail
              refine wp_region_quiet_below (by kernel_rfl) (by kernel_rfl) ?_
              repeat (go_big_quiet_step (fail))
              refine wpQuiet_nil ?_
              intro _ hw'
              obtain ⟨⟨dq, osq⟩, hw''⟩ := hw'
              subst hw''
              have hbq := below_regrown w3 dq osq
              generalize Go.Sort.grow (redrawn w3 dq) osq = w4 at hbq ⊢
              have HB3 := Aside0.mk (HB2.out.trans (hbq.mono HB2.out.size))
              clear hbq
              clear m1 n2 b2
              go_wp2_with fail
              have HBz := Aside0.mk (HB.out.trans (HB3.out.mono HB.out.size))
              have HBd := Aside0.mk (below_drew1 HBz.out)
              have HOd := Aside0.mk (Kd.R_drew (Kd.R_below HO.out HB3.out))
              have hk4 : k ≤ out.length := q1
              have hk5 : k ≤ cv := Nat.le_trans hk4 (Kd.R_reads' HO.out).2.1
              obtain ⟨ad2, e2, hw0, hw1⟩ := at_T47 HR.out i (by omega) hlt
              cases e2
              simp only [Int.toNat_natCast] at hw0 hw1
              rw [HXR.out] at hw0 hw1
              have HXw0 := Aside0.mk hw0
              have HXw1 := Aside0.mk hw1
              clear hw0 hw1 HBz
              refine start_ (n := 16) (S := fun w' => w'.cell? (ad.add (i * 2)) = some (.string x.f0) ∧ w'.cell? ⟨(ad.add (i * 2)).block, (ad.add (i * 2)).off + 1, none⟩ = some (.string x.f1)) (ds := []) #[false, false, false, false, false, false, false, false, false, false, false, false, false, false, false, false] (by kernel_rfl) rfl rfl ⟨(HBd.out.cell (block_lt_of_cell HXw0.out)).trans HXw0.out, (HBd.out.cell (block_lt_of_cell HXw1.out)).trans HXw1.out⟩ (fun hHeld => ?_)
              refine with_tabW refMake_tab15 refMake_bits15 (fun HT_ HW_ => ?_)
              generalize w4.drew = w5 at HBd HOd hHeld ⊢
              refine pure_ (i := 1) (N := some 63) (v := ?_) (a' := ?_) #[false, true, false, false, false, false, false, false, false, false, false, false, false, false, false, false] rfl rfl (any_of HT_.out (by kernel_rfl)) (fun _ _ _ h => h) (Or.inl ⟨by rfl, ?_⟩) ?_ ?_
              rotate_left
              · intro w'
                go_simp
                with_reducible rfl
              rotate_left
              · simp only [Act.put, List.setIfInBounds_toArray, List.set_cons_zero, List.set_cons_succ]
                rfl
              refine pure_ (i := 2) (N := some 64) (v := ?_) (a' := ?_) #[false, true, true, false, false, false, false, false, false, false, false, false, false, false, false, false] rfl rfl (any_of HT_.out (by kernel_rfl)) (fun _ _ _ h => h) (Or.inl ⟨by rfl, ?_⟩) ?_ ?_
              rotate_left
              · intro w'
                go_simp
                with_reducible rfl
              rotate_left
              · simp only [Act.put, List.setIfInBounds_toArray, List.set_cons_zero, List.set_cons_succ]
                rfl
              refine pure_ (i := 3) (N := some 65) (v := ?_) (a' := ?_) #[false, true, true, true, false, false, false, false, false, false, false, false, false, false, false, false] rfl rfl (any_of HT_.out (by kernel_rfl)) (fun _ _ _ h => h) (Or.inl ⟨by rfl, ?_⟩) ?_ ?_
              rotate_left
              · intro w'
                go_simp
                with_reducible rfl
              rotate_left
              · simp only [Act.put, List.setIfInBounds_toArray, List.set_cons_zero, List.set_cons_succ]
                rfl
              refine pure_ (i := 5) (N := some 67) (v := ?_) (a' := ?_) #[false, true, true, true, false, true, false, false, false, false, false, false, false, false, false, false] rfl rfl (any_of HT_.out (by kernel_rfl)) (fun _ _ _ h => h) (Or.inl ⟨by rfl, ?_⟩) ?_ ?_
              rotate_left
              · intro w'
                go_simp
                with_reducible rfl
              rotate_left
              · simp only [Act.put, List.setIfInBounds_toArray, List.set_cons_zero, List.set_cons_succ]
                rfl
              refine pure_ (i := 6) (N := some 68) (v := ?_) (a' := ?_) #[false, true, true, true, false, true, true, false, false, false, false, false, false, false, false, false] rfl rfl (any_of HT_.out (by kernel_rfl)) (fun _ _ _ h => h) (Or.inl ⟨by rfl, ?_⟩) ?_ ?_
              rotate_left
              · intro w'
                go_simp
                with_reducible rfl
              rotate_left
              · simp only [Act.put, List.setIfInBounds_toArray, List.set_cons_zero, List.set_cons_succ]
                rfl
              refine pure_ (i := 7) (N := some 69) (v := ?_) (a' := ?_) #[false, true, true, true, false, true, true, true, false, false, false, false, false, false, false, false] rfl rfl (any_of HT_.out (by kernel_rfl)) (fun _ _ _ h => h) (Or.inl ⟨by rfl, ?_⟩) ?_ ?_
              rotate_left
              · intro w'
                go_simp
                with_reducible rfl
              rotate_left
              · simp only [Act.put, List.setIfInBounds_toArray, List.set_cons_zero, List.set_cons_succ]
                rfl
              refine pure_ (i := 11) (N := some 73) (v := ?_) (a' := ?_) #[false, true, true, true, false, true, true, true, false, false, false, true, false, false, false, false] rfl rfl (any_of HT_.out (by kernel_rfl)) (fun _ _ _ h => h) (Or.inl ⟨by rfl, ?_⟩) ?_ ?_
              rotate_left
              · intro w'
                go_simp
                with_reducible rfl
              rotate_left
              · simp only [Act.put, List.setIfInBounds_toArray, List.set_cons_zero, List.set_cons_succ]
                rfl
              refine pure_ (i := 12) (N := some 74) (v := ?_) (a' := ?_) #[false, true, true, true, false, true, true, true, false, false, false, true, true, false, false, false] rfl rfl (any_of HT_.out (by kernel_rfl)) (fun _ _ _ h => h) (Or.inl ⟨by rfl, ?_⟩) ?_ ?_
              rotate_left
              · intro w'
                go_simp
                with_reducible rfl
              rotate_left
              · simp only [Act.put, List.setIfInBounds_toArray, List.set_cons_zero, List.set_cons_succ]
                rfl
              refine pure_ (i := 13) (N := some 75) (v := ?_) (a' := ?_) #[false, true, true, true, false, true, true, true, false, false, false, true, true, true, false, false] rfl rfl (any_of HT_.out (by kernel_rfl)) (fun _ _ _ h => h) (Or.inl ⟨by rfl, ?_⟩) ?_ ?_
              rotate_left
              · intro w'
                go_simp
                with_reducible rfl
              rotate_left
              · simp only [Act.put, List.setIfInBounds_toArray, List.set_cons_zero, List.set_cons_succ]
                rfl
              refine take_ (i := 8) (N := some 70) (v := ?_) (a' := ?_) #[false, true, true, true, false, true, true, true, true, false, false, true, true, true, false, false] rfl rfl (take_ofW HT_.out HW_.out (by kernel_rfl)) (fun _ _ _ h => h) (Or.inl ⟨by rfl, ?_⟩) hHeld ?_ ?_
              rotate_left
              · rintro w' ⟨s0, s1⟩
                go_simp
                with_reducible rfl
              rotate_left
              · simp only [Act.put, List.setIfInBounds_toArray, List.set_cons_zero, List.set_cons_succ]
                rfl
              refine join_ (σ := Value × Value × Value) 3 #[true, true, true, true, true, true, true, true, true, true, false, true, true, true, false, false] (fun s_ => [(62, s_.1), (66, s_.2.1), (71, s_.2.2)]) (fun s_ w' => (w'.cell? (ad.add (i * 2)) = some (.string x.f0) ∧ w'.cell? ⟨(ad.add (i * 2)).block, (ad.add (i * 2)).off + 1, none⟩ = some (.string x.f1)) ∧ Kd.R k47 47 w' w.heap.size (fun _ => True) (.slice (some ao) out.length cv) out ∧ Kd.R k47 47 w' w.heap.size (fun _ => True) s_.2.1 (out.take k) ∧ Kd.R k47 47 w' w.heap.size (fun _ => True) s_.2.2 [x] ∧ NE (.slice (some ao) out.length cv) s_.2.1 ∧ NE s_.2.2 s_.2.1 ∧ Below w.heap.size w w') ?_ ?_
              rotate_left
              · intro hCont
                refine two_ (i := 0) (j := 9) (Ni := some 62) (Nj := some 71) #[true, true, true, true, false, true, true, true, true, false, false, true, true, true, false, false] #[false, true, true, true, false, true, true, true, true, true, false, true, true, true, false, false] rfl rfl rfl rfl (two_of HT_.out (by kernel_rfl)) (by decide) (by decide) (fun K hK => ?_) (fun K hK => ?_)
                · refine Kd.R_lit_step k47 _ 47 ?hg (N := 62) ?hd (xs := ([] : List S47)) (inner := []) (ok := fun _ => True) (okp := fun _ => True) ?hr ?hp (fun _ hk => hk) trivial (Below.refl _ _) (Nat.le_refl _) (by simp) ?_
                  case hd => rfl
                  case hg => rfl
                  case hr => first | (go_simp; done) | (go_simp; rfl)
                  case hp => exact (Reps.none _ _)
                  intro v62 w6 ho hb hg_ hnew_
                  clear hg_ hnew_
                  have NE_HOd_v62 := Aside0.mk (ne_new HOd.out (Kd.R_base ho))
                  have HOd_n := Aside0.mk (Kd.R_below HOd.out hb)
                  have HR_v62 := Aside0.mk (Kd.R_lower ho HBd.out.size)
                  have HB_w6 := Aside0.mk (below_step HBd.out hb)
                  clear ho hb
                  clear HOd
                  have HOd := HOd_n
                  clear HOd_n
                  refine hK.out _ _ ⟨(HB_w6.out.cell (block_lt_of_cell HXw0.out)).trans HXw0.out, (HB_w6.out.cell (block_lt_of_cell HXw1.out)).trans HXw1.out⟩ (fun hHeld => ?_)
                  clear hK K
                  refine norm_ (a' := ?_) ?_ ?_
                  rotate_left
                  · show Act.put _ (some 62) _ = _
                    simp only [Act.put, List.setIfInBounds_toArray, List.set_cons_zero, List.set_cons_succ]
                    rfl
                  refine two_ (i := 4) (j := 9) (Ni := some 66) (Nj := some 71) #[true, true, true, true, true, true, true, true, true, false, false, true, true, true, false, false] #[true, true, true, true, false, true, true, true, true, true, false, true, true, true, false, false] rfl rfl rfl rfl (two_of HT_.out (by kernel_rfl)) (by decide) (by decide) (fun K hK => ?_) (fun K hK => ?_)
                  · refine app_step (w0 := w) w.heap.size (by rfl) (.tmp 62) (.tmp 65) rfl v62 [] (out.take k) _ _ _ rfl rfl HR_v62.out (by have hc := Kd.C_take (m := k) (Kd.R_reads' HOd.out).2.2 (by omega); simpa only [List.length_take, Nat.min_eq_left hk4] using hc) HB_w6.out HB_w6.out.size ?len ?_
                    case len => simp only [List.length_append, List.length_take, List.length_drop, List.length_cons, List.length_nil]; omega
                    intro v66 w7 ho hb hg hat
                    have NE_HOd_v66 := Aside0.mk (ne_hat NE_HOd_v62.out HOd.out hat)
                    have HOd_n := Aside0.mk (R47_grown HOd.out hg NE_HOd_v62.out)
                    have HR_v66 := Aside0.mk ho
                    have HB_w7 := Aside0.mk hb
                    clear ho hb hg hat
                    clear HOd
                    have HOd := HOd_n
                    clear HOd_n
                    refine hK.out _ _ ⟨(HB_w7.out.cell (block_lt_of_cell HXw0.out)).trans HXw0.out, (HB_w7.out.cell (block_lt_of_cell HXw1.out)).trans HXw1.out⟩ (fun hHeld => ?_)
                    clear hK K
                    refine norm_ (a' := ?_) ?_ ?_
                    rotate_left
                    · show Act.put _ (some 66) _ = _
                      simp only [Act.put, List.setIfInBounds_toArray, List.set_cons_zero, List.set_cons_succ]
                      rfl
                    refine one_ (i := 9) (N := some 71) #[true, true, true, true, true, true, true, true, true, true, false, true, true, true, false, false] rfl rfl (one_of HT_.out (by kernel_rfl)) (by decide) (fun K hK => ?_)
                    refine Kd.R_lit_step k47 _ 47 ?hg (N := 71) ?hd (xs := [x]) (inner := [.string x.f0, .string x.f1]) (ok := fun _ => True) (okp := fun _ => True) ?hr ?hp (fun _ hk => hk) trivial (Below.refl _ _) (Nat.le_refl _) (by simp) ?_
                    case hd => rfl
                    case hg => rfl
                    case hr => first | (go_simp; done) | (go_simp; rfl)
                    case hp => exact (Reps.c2 (show Kd.M k47 _ _ _ x [.string x.f0, .string x.f1] from k47_mkM _ _ _ x) (Reps.none _ _))
                    intro v71 w8 ho hb hg_ hnew_
                    clear hg_ hnew_
                    have NE_HOd_v71 := Aside0.mk (ne_new HOd.out (Kd.R_base ho))
                    have NE_HR_v66_v71 := Aside0.mk (ne_new HR_v66.out (Kd.R_base ho))
                    have HOd_n := Aside0.mk (Kd.R_below HOd.out hb)
                    have HR_v66_n := Aside0.mk (Kd.R_below HR_v66.out hb)
                    have HR_v71 := Aside0.mk (Kd.R_lower ho HB_w7.out.size)
                    have HB_w8 := Aside0.mk (below_step HB_w7.out hb)
                    clear ho hb
                    clear HOd
                    clear HR_v66
                    have HOd := HOd_n
                    have HR_v66 := HR_v66_n
                    clear HOd_n HR_v66_n
                    refine hK.out _ _ ⟨(HB_w8.out.cell (block_lt_of_cell HXw0.out)).trans HXw0.out, (HB_w8.out.cell (block_lt_of_cell HXw1.out)).trans HXw1.out⟩ (fun hHeld => ?_)
                    clear hK K
                    refine norm_ (a' := ?_) ?_ ?_
                    rotate_left
                    · show Act.put _ (some 71) _ = _
                      simp only [Act.put, List.setIfInBounds_toArray, List.set_cons_zero, List.set_cons_succ]
                      rfl
                    exact norm_ (by simp only [putAll, Act.put, List.setIfInBounds_toArray, List.set_cons_zero, List.set_cons_succ]) (hCont (v62, v66, v71) _ ⟨hHeld, HOd.out, HR_v66.out, HR_v71.out, NE_HOd_v66.out, ne_swap NE_HR_v66_v71.out, HB_w8.out⟩)
                  · refine Kd.R_lit_step k47 _ 47 ?hg (N := 71) ?hd (xs := [x]) (inner := [.string x.f0, .string x.f1]) (ok := fun _ => True) (okp := fun _ => True) ?hr ?hp (fun _ hk => hk) trivial (Below.refl _ _) (Nat.le_refl _) (by simp) ?_
                    case hd => rfl
                    case hg => rfl
                    case hr => first | (go_simp; done) | (go_simp; rfl)
                    case hp => exact (Reps.c2 (show Kd.M k47 _ _ _ x [.string x.f0, .string x.f1] from k47_mkM _ _ _ x) (Reps.none _ _))
                    intro v71 w7 ho hb hg_ hnew_
                    clear hg_ hnew_
                    have NE_HOd_v71 := Aside0.mk (ne_new HOd.out (Kd.R_base ho))
                    have NE_HR_v62_v71 := Aside0.mk (ne_new HR_v62.out (Kd.R_base ho))
                    have HOd_n := Aside0.mk (Kd.R_below HOd.out hb)
                    have HR_v62_n := Aside0.mk (Kd.R_below HR_v62.out hb)
                    have HR_v71 := Aside0.mk (Kd.R_lower ho HB_w6.out.size)
                    have HB_w7 := Aside0.mk (below_step HB_w6.out hb)
                    clear ho hb
                    clear HOd
                    clear HR_v62
                    have HOd := HOd_n
                    have HR_v62 := HR_v62_n
                    clear HOd_n HR_v62_n
                    refine hK.out _ _ ⟨(HB_w7.out.cell (block_lt_of_cell HXw0.out)).trans HXw0.out, (HB_w7.out.cell (block_lt_of_cell HXw1.out)).trans HXw1.out⟩ (fun hHeld => ?_)
                    clear hK K
                    refine norm_ (a' := ?_) ?_ ?_
                    rotate_left
                    · show Act.put _ (some 71) _ = _
                      simp only [Act.put, List.setIfInBounds_toArray, List.set_cons_zero, List.set_cons_succ]
                      rfl
                    have NE_71_62 := Aside0.mk (ne_swap NE_HR_v62_v71.out)
                    refine one_ (i := 4) (N := some 66) #[true, true, true, true, true, true, true, true, true, true, false, true, true, true, false, false] rfl rfl (one_of HT_.out (by kernel_rfl)) (by decide) (fun K hK => ?_)
                    refine app_step (w0 := w) w.heap.size (by rfl) (.tmp 62) (.tmp 65) rfl v62 [] (out.take k) _ _ _ rfl rfl HR_v62.out (by have hc := Kd.C_take (m := k) (Kd.R_reads' HOd.out).2.2 (by omega); simpa only [List.length_take, Nat.min_eq_left hk4] using hc) HB_w7.out HB_w7.out.size ?len ?_
                    case len => simp only [List.length_append, List.length_take, List.length_drop, List.length_cons, List.length_nil]; omega
                    intro v66 w8 ho hb hg hat
                    have NE_HOd_v66 := Aside0.mk (ne_hat NE_HOd_v62.out HOd.out hat)
                    have NE_HR_v71_v66 := Aside0.mk (ne_hat NE_71_62.out HR_v71.out hat)
                    have HOd_n := Aside0.mk (R47_grown HOd.out hg NE_HOd_v62.out)
                    have HR_v71_n := Aside0.mk (R47_grown HR_v71.out hg NE_71_62.out)
                    have HR_v66 := Aside0.mk ho
                    have HB_w8 := Aside0.mk hb
                    clear ho hb hg hat
                    clear HOd
                    clear HR_v71
                    have HOd := HOd_n
                    have HR_v71 := HR_v71_n
                    clear HOd_n HR_v71_n
                    refine hK.out _ _ ⟨(HB_w8.out.cell (block_lt_of_cell HXw0.out)).trans HXw0.out, (HB_w8.out.cell (block_lt_of_cell HXw1.out)).trans HXw1.out⟩ (fun hHeld => ?_)
                    clear hK K
                    refine norm_ (a' := ?_) ?_ ?_
                    rotate_left
                    · show Act.put _ (some 66) _ = _
                      simp only [Act.put, List.setIfInBounds_toArray, List.set_cons_zero, List.set_cons_succ]
                      rfl
                    exact norm_ (by simp only [putAll, Act.put, List.setIfInBounds_toArray, List.set_cons_zero, List.set_cons_succ]) (hCont (v62, v66, v71) _ ⟨hHeld, HOd.out, HR_v66.out, HR_v71.out, NE_HOd_v66.out, NE_HR_v71_v66.out, HB_w8.out⟩)
                · refine Kd.R_lit_step k47 _ 47 ?hg (N := 71) ?hd (xs := [x]) (inner := [.string x.f0, .string x.f1]) (ok := fun _ => True) (okp := fun _ => True) ?hr ?hp (fun _ hk => hk) trivial (Below.refl _ _) (Nat.le_refl _) (by simp) ?_
                  case hd => rfl
                  case hg => rfl
                  case hr => first | (go_simp; done) | (go_simp; rfl)
                  case hp => exact (Reps.c2 (show Kd.M k47 _ _ _ x [.string x.f0, .string x.f1] from k47_mkM _ _ _ x) (Reps.none _ _))
                  intro v71 w6 ho hb hg_ hnew_
                  clear hg_ hnew_
                  have NE_HOd_v71 := Aside0.mk (ne_new HOd.out (Kd.R_base ho))
                  have HOd_n := Aside0.mk (Kd.R_below HOd.out hb)
                  have HR_v71 := Aside0.mk (Kd.R_lower ho HBd.out.size)
                  have HB_w6 := Aside0.mk (below_step HBd.out hb)
                  clear ho hb
                  clear HOd
                  have HOd := HOd_n
                  clear HOd_n
                  refine hK.out _ _ ⟨(HB_w6.out.cell (block_lt_of_cell HXw0.out)).trans HXw0.out, (HB_w6.out.cell (block_lt_of_cell HXw1.out)).trans HXw1.out⟩ (fun hHeld => ?_)
                  clear hK K
                  refine norm_ (a' := ?_) ?_ ?_
                  rotate_left
                  · show Act.put _ (some 71) _ = _
                    simp only [Act.put, List.setIfInBounds_toArray, List.set_cons_zero, List.set_cons_succ]
                    rfl
                  refine one_ (i := 0) (N := some 62) #[true, true, true, true, false, true, true, true, true, true, false, true, true, true, false, false] rfl rfl (one_of HT_.out (by kernel_rfl)) (by decide) (fun K hK => ?_)
                  refine Kd.R_lit_step k47 _ 47 ?hg (N := 62) ?hd (xs := ([] : List S47)) (inner := []) (ok := fun _ => True) (okp := fun _ => True) ?hr ?hp (fun _ hk => hk) trivial (Below.refl _ _) (Nat.le_refl _) (by simp) ?_
                  case hd => rfl
                  case hg => rfl
                  case hr => first | (go_simp; done) | (go_simp; rfl)
                  case hp => exact (Reps.none _ _)
                  intro v62 w7 ho hb hg_ hnew_
                  clear hg_ hnew_
                  have NE_HOd_v62 := Aside0.mk (ne_new HOd.out (Kd.R_base ho))
                  have NE_HR_v71_v62 := Aside0.mk (ne_new HR_v71.out (Kd.R_base ho))
                  have HOd_n := Aside0.mk (Kd.R_below HOd.out hb)
                  have HR_v71_n := Aside0.mk (Kd.R_below HR_v71.out hb)
                  have HR_v62 := Aside0.mk (Kd.R_lower ho HB_w6.out.size)
                  have HB_w7 := Aside0.mk (below_step HB_w6.out hb)
                  clear ho hb
                  clear HOd
                  clear HR_v71
                  have HOd := HOd_n
                  have HR_v71 := HR_v71_n
                  clear HOd_n HR_v71_n
                  refine hK.out _ _ ⟨(HB_w7.out.cell (block_lt_of_cell HXw0.out)).trans HXw0.out, (HB_w7.out.cell (block_lt_of_cell HXw1.out)).trans HXw1.out⟩ (fun hHeld => ?_)
                  clear hK K
                  refine norm_ (a' := ?_) ?_ ?_
                  rotate_left
                  · show Act.put _ (some 62) _ = _
                    simp only [Act.put, List.setIfInBounds_toArray, List.set_cons_zero, List.set_cons_succ]
                    rfl
                  refine one_ (i := 4) (N := some 66) #[true, true, true, true, true, true, true, true, true, true, false, true, true, true, false, false] rfl rfl (one_of HT_.out (by kernel_rfl)) (by decide) (fun K hK => ?_)
                  refine app_step (w0 := w) w.heap.size (by rfl) (.tmp 62) (.tmp 65) rfl v62 [] (out.take k) _ _ _ rfl rfl HR_v62.out (by have hc := Kd.C_take (m := k) (Kd.R_reads' HOd.out).2.2 (by omega); simpa only [List.length_take, Nat.min_eq_left hk4] using hc) HB_w7.out HB_w7.out.size ?len ?_
                  case len => simp only [List.length_append, List.length_take, List.length_drop, List.length_cons, List.length_nil]; omega
                  intro v66 w8 ho hb hg hat
                  have NE_HOd_v66 := Aside0.mk (ne_hat NE_HOd_v62.out HOd.out hat)
                  have NE_HR_v71_v66 := Aside0.mk (ne_hat NE_HR_v71_v62.out HR_v71.out hat)
                  have HOd_n := Aside0.mk (R47_grown HOd.out hg NE_HOd_v62.out)
                  have HR_v71_n := Aside0.mk (R47_grown HR_v71.out hg NE_HR_v71_v62.out)
                  have HR_v66 := Aside0.mk ho
                  have HB_w8 := Aside0.mk hb
                  clear ho hb hg hat
                  clear HOd
                  clear HR_v71
                  have HOd := HOd_n
                  have HR_v71 := HR_v71_n
                  clear HOd_n HR_v71_n
                  refine hK.out _ _ ⟨(HB_w8.out.cell (block_lt_of_cell HXw0.out)).trans HXw0.out, (HB_w8.out.cell (block_lt_of_cell HXw1.out)).trans HXw1.out⟩ (fun hHeld => ?_)
                  clear hK K
                  refine norm_ (a' := ?_) ?_ ?_
                  rotate_left
                  · show Act.put _ (some 66) _ = _
                    simp only [Act.put, List.setIfInBounds_toArray, List.set_cons_zero, List.set_cons_succ]
                    rfl
                  exact norm_ (by simp only [putAll, Act.put, List.setIfInBounds_toArray, List.set_cons_zero, List.set_cons_succ]) (hCont (v62, v66, v71) _ ⟨hHeld, HOd.out, HR_v66.out, HR_v71.out, NE_HOd_v66.out, NE_HR_v71_v66.out, HB_w8.out⟩)
              rintro ⟨v62, v66, v71⟩ w8 ⟨hHeld, h0_, h1_, h2_, h3_, h4_, h5_⟩
              have HOd := Aside0.mk h0_
              have HR_v66 := Aside0.mk h1_
              have HR_v71 := Aside0.mk h2_
              have NE_HOd_v66 := Aside0.mk h3_
              have NE_71_66 := Aside0.mk h4_
              have HB_w8 := Aside0.mk h5_
              clear h0_ h1_ h2_ h3_ h4_ h5_
              obtain ⟨A71, c71, e71⟩ := Kd.R_slice HR_v71.out
              subst e71
              refine norm_ (a' := ?_) ?_ ?_
              rotate_left
              · simp only [putAll, Act.put, List.setIfInBounds_toArray, List.set_cons_zero, List.set_cons_succ]
                rfl
              refine one_ (i := 10) (N := some 72) #[true, true, true, true, true, true, true, true, true, true, true, true, true, true, false, false] rfl rfl (one_of HT_.out (by kernel_rfl)) (by decide) (fun K hK => ?_)
              refine app_step (w0 := w) w.heap.size (by rfl) (.tmp 66) (.tmp 71) rfl v66 (out.take k) [x] _ _ _ rfl rfl HR_v66.out ((Kd.R_reads' HR_v71.out).2.2) HB_w8.out HB_w8.out.size ?len ?_
              case len => simp only [List.length_append, List.length_take, List.length_drop, List.length_cons, List.length_nil]; omega
              intro v72 w9 ho hb hg hat
              have NE_HOd_v72 := Aside0.mk (ne_hat NE_HOd_v66.out HOd.out hat)
              have HOd_n := Aside0.mk (R47_grown HOd.out hg NE_HOd_v66.out)
              have HR_v72 := Aside0.mk ho
              have HB_w9 := Aside0.mk hb
              clear ho hb hg hat
              clear HOd
              have HOd := HOd_n
              clear HOd_n
              refine hK.out _ _ ⟨(HB_w9.out.cell (block_lt_of_cell HXw0.out)).trans HXw0.out, (HB_w9.out.cell (block_lt_of_cell HXw1.out)).trans HXw1.out⟩ (fun hHeld => ?_)
              clear hK K
              refine norm_ (a' := ?_) ?_ ?_
              rotate_left
              · show Act.put _ (some 72) _ = _
                simp only [Act.put, List.setIfInBounds_toArray, List.set_cons_zero, List.set_cons_succ]
                rfl
              refine one_ (i := 14) (N := some 76) #[true, true, true, true, true, true, true, true, true, true, true, true, true, true, true, false] rfl rfl (one_of HT_.out (by kernel_rfl)) (by decide) (fun K hK => ?_)
              refine app_step (w0 := w) w.heap.size (by rfl) (.tmp 72) (.tmp 75) rfl v72 (out.take k ++ [x]) (out.drop k) _ _ _ rfl rfl HR_v72.out (by have hc := Kd.C_drop (m := k) (c := cv) (Kd.R_reads' HOd.out).2.2 (by omega) (Kd.R_reads' HOd.out).2.1; first | (rw [List.length_drop] at hc; exact hc) | (rw [List.length_drop, Nat.sub_self] at hc; exact hc)) HB_w9.out HB_w9.out.size ?len ?_
              case len => simp only [List.length_append, List.length_take, List.length_drop, List.length_cons, List.length_nil]; omega
              intro v76 w10 ho hb hg hat
              have NE_HOd_v76 := Aside0.mk (ne_hat NE_HOd_v72.out HOd.out hat)
              have HOd_n := Aside0.mk (R47_grown HOd.out hg NE_HOd_v72.out)
              have HR_v76 := Aside0.mk ho
              have HB_w10 := Aside0.mk hb
              clear ho hb hg hat
              clear HOd
              have HOd := HOd_n
              clear HOd_n
              refine hK.out _ _ ⟨(HB_w10.out.cell (block_lt_of_cell HXw0.out)).trans HXw0.out, (HB_w10.out.cell (block_lt_of_cell HXw1.out)).trans HXw1.out⟩ (fun hHeld => ?_)
              clear hK K
              refine norm_ (a' := ?_) ?_ ?_
              rotate_left
              · show Act.put _ (some 76) _ = _
                simp only [Act.put, List.setIfInBounds_toArray, List.set_cons_zero, List.set_cons_succ]
                rfl
              refine pure_ (i := 15) (N := some 5) (v := ?_) (a' := ?_) #[true, true, true, true, true, true, true, true, true, true, true, true, true, true, true, true] rfl rfl (any_of HT_.out (by kernel_rfl)) (fun _ _ _ h => h) (Or.inl ⟨by rfl, ?_⟩) ?_ ?_
              rotate_left
              · intro w'
                go_simp
                with_reducible rfl
              rotate_left
              · simp only [Act.put, List.setIfInBounds_toArray, List.set_cons_zero, List.set_cons_succ]
                rfl
              refine done_ (done_of HT_.out (by kernel_rfl)) ?_
              have HST := Aside0.mk (ins_step l0 i hi0 HN.out k (by rw [← HOUT.out]; omega) (by rw [← HX.out, ← HOUT.out]; exact HK.out) (by rw [← HX.out, ← HOUT.out]; exact HGT.out))
              clear hHeld HT_ HW_
              go_wp2_with fail
              all_goals
                go_roundg (l0.length - (i + 1))
                case measure => omega
                case rel => exact ⟨i + 1, by go_num, by omega, ⟨by omega⟩, ⟨HB_w10.out⟩, ⟨HST.out.1⟩, ⟨by rw [HST.out.2, ← HOUT.out, ← HX.out]; exact HR_v76.out⟩⟩
        · have HGT := Aside0.mk (show (h : k < out.length) → 0 < cmpS out[k].f0 x.f0 from fun h => absurd h (by omega))
          obtain rfl : k = out.length := by omega
          clear hk q1
          go_wp2_with fail
          refine wp_region_quiet_below (by kernel_rfl) (by kernel_rfl) ?_
          repeat (go_big_quiet_step (fail))
          refine wpQuiet_nil ?_
          intro _ hw'
          obtain ⟨⟨dq, osq⟩, hw''⟩ := hw'
          subst hw''
          have hbq := below_regrown wr dq osq
          generalize Go.Sort.grow (redrawn wr dq) osq = w3 at hbq ⊢
          have HB2 := Aside0.mk (HB1.out.trans (hbq.mono HB1.out.size))
          clear hbq
          clear m0 hz0
          go_wp2_with fail
          refine wp_region_quiet_below (by kernel_rfl) (by kernel_rfl) ?_
          repeat (go_big_quiet_step (fail))
          refine wpQuiet_nil ?_
          intro _ hw'
          obtain ⟨⟨dq, osq⟩, hw''⟩ := hw'
          subst hw''
          have hbq := below_regrown w3 dq osq
          generalize Go.Sort.grow (redrawn w3 dq) osq = w4 at hbq ⊢
          have HB3 := Aside0.mk (HB2.out.trans (hbq.mono HB2.out.size))
          clear hbq
          go_wp2_with fail
          have HBz := Aside0.mk (HB.out.trans (HB3.out.mono HB.out.size))
          have HBd := Aside0.mk (below_drew1 HBz.out)
          have HOd := Aside0.mk (Kd.R_drew (Kd.R_below HO.out HB3.out))
          have hk4 : out.length ≤ out.length := Nat.le_refl _
          have hk5 : out.length ≤ cv := Nat.le_trans hk4 (Kd.R_reads' HO.out).2.1
          obtain ⟨ad2, e2, hw0, hw1⟩ := at_T47 HR.out i (by omega) hlt
          cases e2
          simp only [Int.toNat_natCast] at hw0 hw1
          rw [HXR.out] at hw0 hw1
          have HXw0 := Aside0.mk hw0
          have HXw1 := Aside0.mk hw1
          clear hw0 hw1 HBz
          refine start_ (n := 16) (S := fun w' => w'.cell? (ad.add (i * 2)) = some (.string x.f0) ∧ w'.cell? ⟨(ad.add (i * 2)).block, (ad.add (i * 2)).off + 1, none⟩ = some (.string x.f1)) (ds := []) #[false, false, false, false, false, false, false, false, false, false, false, false, false, false, false, false] (by kernel_rfl) rfl rfl ⟨(HBd.out.cell (block_lt_of_cell HXw0.out)).trans HXw0.out, (HBd.out.cell (block_lt_of_cell HXw1.out)).trans HXw1.out⟩ (fun hHeld => ?_)
          refine with_tabW refMake_tab15 refMake_bits15 (fun HT_ HW_ => ?_)
          generalize w4.drew = w5 at HBd HOd hHeld ⊢
          refine pure_ (i := 1) (N := some 63) (v := ?_) (a' := ?_) #[false, true, false, false, false, false, false, false, false, false, false, false, false, false, false, false] rfl rfl (any_of HT_.out (by kernel_rfl)) (fun _ _ _ h => h) (Or.inl ⟨by rfl, ?_⟩) ?_ ?_
          rotate_left
          · intro w'
            go_simp
            with_reducible rfl
          rotate_left
          · simp only [Act.put, List.setIfInBounds_toArray, List.set_cons_zero, List.set_cons_succ]
            rfl
          refine pure_ (i := 2) (N := some 64) (v := ?_) (a' := ?_) #[false, true, true, false, false, false, false, false, false, false, false, false, false, false, false, false] rfl rfl (any_of HT_.out (by kernel_rfl)) (fun _ _ _ h => h) (Or.inl ⟨by rfl, ?_⟩) ?_ ?_
          rotate_left
          · intro w'
            go_simp
            with_reducible rfl
          rotate_left
          · simp only [Act.put, List.setIfInBounds_toArray, List.set_cons_zero, List.set_cons_succ]
            rfl
          refine pure_ (i := 3) (N := some 65) (v := ?_) (a' := ?_) #[false, true, true, true, false, false, false, false, false, false, false, false, false, false, false, false] rfl rfl (any_of HT_.out (by kernel_rfl)) (fun _ _ _ h => h) (Or.inl ⟨by rfl, ?_⟩) ?_ ?_
          rotate_left
          · intro w'
            go_simp
            with_reducible rfl
          rotate_left
          · simp only [Act.put, List.setIfInBounds_toArray, List.set_cons_zero, List.set_cons_succ]
            rfl
          refine pure_ (i := 5) (N := some 67) (v := ?_) (a' := ?_) #[false, true, true, true, false, true, false, false, false, false, false, false, false, false, false, false] rfl rfl (any_of HT_.out (by kernel_rfl)) (fun _ _ _ h => h) (Or.inl ⟨by rfl, ?_⟩) ?_ ?_
          rotate_left
          · intro w'
            go_simp
            with_reducible rfl
          rotate_left
          · simp only [Act.put, List.setIfInBounds_toArray, List.set_cons_zero, List.set_cons_succ]
            rfl
          refine pure_ (i := 6) (N := some 68) (v := ?_) (a' := ?_) #[false, true, true, true, false, true, true, false, false, false, false, false, false, false, false, false] rfl rfl (any_of HT_.out (by kernel_rfl)) (fun _ _ _ h => h) (Or.inl ⟨by rfl, ?_⟩) ?_ ?_
          rotate_left
          · intro w'
            go_simp
            with_reducible rfl
          rotate_left
          · simp only [Act.put, List.setIfInBounds_toArray, List.set_cons_zero, List.set_cons_succ]
            rfl
          refine pure_ (i := 7) (N := some 69) (v := ?_) (a' := ?_) #[false, true, true, true, false, true, true, true, false, false, false, false, false, false, false, false] rfl rfl (any_of HT_.out (by kernel_rfl)) (fun _ _ _ h => h) (Or.inl ⟨by rfl, ?_⟩) ?_ ?_
          rotate_left
          · intro w'
            go_simp
            with_reducible rfl
          rotate_left
          · simp only [Act.put, List.setIfInBounds_toArray, List.set_cons_zero, List.set_cons_succ]
            rfl
          refine pure_ (i := 11) (N := some 73) (v := ?_) (a' := ?_) #[false, true, true, true, false, true, true, true, false, false, false, true, false, false, false, false] rfl rfl (any_of HT_.out (by kernel_rfl)) (fun _ _ _ h => h) (Or.inl ⟨by rfl, ?_⟩) ?_ ?_
          rotate_left
          · intro w'
            go_simp
            with_reducible rfl
          rotate_left
          · simp only [Act.put, List.setIfInBounds_toArray, List.set_cons_zero, List.set_cons_succ]
            rfl
          refine pure_ (i := 12) (N := some 74) (v := ?_) (a' := ?_) #[false, true, true, true, false, true, true, true, false, false, false, true, true, false, false, false] rfl rfl (any_of HT_.out (by kernel_rfl)) (fun _ _ _ h => h) (Or.inl ⟨by rfl, ?_⟩) ?_ ?_
          rotate_left
          · intro w'
            go_simp
            with_reducible rfl
          rotate_left
          · simp only [Act.put, List.setIfInBounds_toArray, List.set_cons_zero, List.set_cons_succ]
            rfl
          refine pure_ (i := 13) (N := some 75) (v := ?_) (a' := ?_) #[false, true, true, true, false, true, true, true, false, false, false, true, true, true, false, false] rfl rfl (any_of HT_.out (by kernel_rfl)) (fun _ _ _ h => h) (Or.inl ⟨by rfl, ?_⟩) ?_ ?_
          rotate_left
          · intro w'
            go_simp
            with_reducible rfl
          rotate_left
          · simp only [Act.put, List.setIfInBounds_toArray, List.set_cons_zero, List.set_cons_succ]
            rfl
          refine take_ (i := 8) (N := some 70) (v := ?_) (a' := ?_) #[false, true, true, true, false, true, true, true, true, false, false, true, true, true, false, false] rfl rfl (take_ofW HT_.out HW_.out (by kernel_rfl)) (fun _ _ _ h => h) (Or.inl ⟨by rfl, ?_⟩) hHeld ?_ ?_
          rotate_left
          · rintro w' ⟨s0, s1⟩
            go_simp
            with_reducible rfl
          rotate_left
          · simp only [Act.put, List.setIfInBounds_toArray, List.set_cons_zero, List.set_cons_succ]
            rfl
          refine join_ (σ := Value × Value × Value) 3 #[true, true, true, true, true, true, true, true, true, true, false, true, true, true, false, false] (fun s_ => [(62, s_.1), (66, s_.2.1), (71, s_.2.2)]) (fun s_ w' => (w'.cell? (ad.add (i * 2)) = some (.string x.f0) ∧ w'.cell? ⟨(ad.add (i * 2)).block, (ad.add (i * 2)).off + 1, none⟩ = some (.string x.f1)) ∧ Kd.R k47 47 w' w.heap.size (fun _ => True) (.slice Av out.length cv) out ∧ Kd.R k47 47 w' w.heap.size (fun _ => True) s_.2.1 (out.take out.length) ∧ Kd.R k47 47 w' w.heap.size (fun _ => True) s_.2.2 [x] ∧ NE (.slice Av out.length cv) s_.2.1 ∧ NE s_.2.2 s_.2.1 ∧ Below w.heap.size w w') ?_ ?_
          rotate_left
          · intro hCont
            refine two_ (i := 0) (j := 9) (Ni := some 62) (Nj := some 71) #[true, true, true, true, false, true, true, true, true, false, false, true, true, true, false, false] #[false, true, true, true, false, true, true, true, true, true, false, true, true, true, false, false] rfl rfl rfl rfl (two_of HT_.out (by kernel_rfl)) (by decide) (by decide) (fun K hK => ?_) (fun K hK => ?_)
            · refine Kd.R_lit_step k47 _ 47 ?hg (N := 62) ?hd (xs := ([] : List S47)) (inner := []) (ok := fun _ => True) (okp := fun _ => True) ?hr ?hp (fun _ hk => hk) trivial (Below.refl _ _) (Nat.le_refl _) (by simp) ?_
              case hd => rfl
              case hg => rfl
              case hr => first | (go_simp; done) | (go_simp; rfl)
              case hp => exact (Reps.none _ _)
              intro v62 w6 ho hb hg_ hnew_
              clear hg_ hnew_
              have NE_HOd_v62 := Aside0.mk (ne_new HOd.out (Kd.R_base ho))
              have HOd_n := Aside0.mk (Kd.R_below HOd.out hb)
              have HR_v62 := Aside0.mk (Kd.R_lower ho HBd.out.size)
              have HB_w6 := Aside0.mk (below_step HBd.out hb)
              clear ho hb
              clear HOd
              have HOd := HOd_n
              clear HOd_n
              refine hK.out _ _ ⟨(HB_w6.out.cell (block_lt_of_cell HXw0.out)).trans HXw0.out, (HB_w6.out.cell (block_lt_of_cell HXw1.out)).trans HXw1.out⟩ (fun hHeld => ?_)
              clear hK K
              refine norm_ (a' := ?_) ?_ ?_
              rotate_left
              · show Act.put _ (some 62) _ = _
                simp only [Act.put, List.setIfInBounds_toArray, List.set_cons_zero, List.set_cons_succ]
                rfl
              refine two_ (i := 4) (j := 9) (Ni := some 66) (Nj := some 71) #[true, true, true, true, true, true, true, true, true, false, false, true, true, true, false, false] #[true, true, true, true, false, true, true, true, true, true, false, true, true, true, false, false] rfl rfl rfl rfl (two_of HT_.out (by kernel_rfl)) (by decide) (by decide) (fun K hK => ?_) (fun K hK => ?_)
              · refine app_step (w0 := w) w.heap.size (by rfl) (.tmp 62) (.tmp 65) rfl v62 [] (out.take out.length) _ _ _ rfl rfl HR_v62.out (by have hc := Kd.C_take (m := out.length) (Kd.R_reads' HOd.out).2.2 (by omega); simpa only [List.length_take, Nat.min_eq_left hk4] using hc) HB_w6.out HB_w6.out.size ?len ?_
                case len => simp only [List.length_append, List.length_take, List.length_drop, List.length_cons, List.length_nil]; omega
                intro v66 w7 ho hb hg hat
                have NE_HOd_v66 := Aside0.mk (ne_hat NE_HOd_v62.out HOd.out hat)
                have HOd_n := Aside0.mk (R47_grown HOd.out hg NE_HOd_v62.out)
                have HR_v66 := Aside0.mk ho
                have HB_w7 := Aside0.mk hb
                clear ho hb hg hat
                clear HOd
                have HOd := HOd_n
                clear HOd_n
                refine hK.out _ _ ⟨(HB_w7.out.cell (block_lt_of_cell HXw0.out)).trans HXw0.out, (HB_w7.out.cell (block_lt_of_cell HXw1.out)).trans HXw1.out⟩ (fun hHeld => ?_)
                clear hK K
                refine norm_ (a' := ?_) ?_ ?_
                rotate_left
                · show Act.put _ (some 66) _ = _
                  simp only [Act.put, List.setIfInBounds_toArray, List.set_cons_zero, List.set_cons_succ]
                  rfl
                refine one_ (i := 9) (N := some 71) #[true, true, true, true, true, true, true, true, true, true, false, true, true, true, false, false] rfl rfl (one_of HT_.out (by kernel_rfl)) (by decide) (fun K hK => ?_)
                refine Kd.R_lit_step k47 _ 47 ?hg (N := 71) ?hd (xs := [x]) (inner := [.string x.f0, .string x.f1]) (ok := fun _ => True) (okp := fun _ => True) ?hr ?hp (fun _ hk => hk) trivial (Below.refl _ _) (Nat.le_refl _) (by simp) ?_
                case hd => rfl
                case hg => rfl
                case hr => first | (go_simp; done) | (go_simp; rfl)
                case hp => exact (Reps.c2 (show Kd.M k47 _ _ _ x [.string x.f0, .string x.f1] from k47_mkM _ _ _ x) (Reps.none _ _))
                intro v71 w8 ho hb hg_ hnew_
                clear hg_ hnew_
                have NE_HOd_v71 := Aside0.mk (ne_new HOd.out (Kd.R_base ho))
                have NE_HR_v66_v71 := Aside0.mk (ne_new HR_v66.out (Kd.R_base ho))
                have HOd_n := Aside0.mk (Kd.R_below HOd.out hb)
                have HR_v66_n := Aside0.mk (Kd.R_below HR_v66.out hb)
                have HR_v71 := Aside0.mk (Kd.R_lower ho HB_w7.out.size)
                have HB_w8 := Aside0.mk (below_step HB_w7.out hb)
                clear ho hb
                clear HOd
                clear HR_v66
                have HOd := HOd_n
                have HR_v66 := HR_v66_n
                clear HOd_n HR_v66_n
                refine hK.out _ _ ⟨(HB_w8.out.cell (block_lt_of_cell HXw0.out)).trans HXw0.out, (HB_w8.out.cell (block_lt_of_cell HXw1.out)).trans HXw1.out⟩ (fun hHeld => ?_)
                clear hK K
                refine norm_ (a' := ?_) ?_ ?_
                rotate_left
                · show Act.put _ (some 71) _ = _
                  simp only [Act.put, List.setIfInBounds_toArray, List.set_cons_zero, List.set_cons_succ]
                  rfl
                exact norm_ (by simp only [putAll, Act.put, List.setIfInBounds_toArray, List.set_cons_zero, List.set_cons_succ]) (hCont (v62, v66, v71) _ ⟨hHeld, HOd.out, HR_v66.out, HR_v71.out, NE_HOd_v66.out, ne_swap NE_HR_v66_v71.out, HB_w8.out⟩)
              · refine Kd.R_lit_step k47 _ 47 ?hg (N := 71) ?hd (xs := [x]) (inner := [.string x.f0, .string x.f1]) (ok := fun _ => True) (okp := fun _ => True) ?hr ?hp (fun _ hk => hk) trivial (Below.refl _ _) (Nat.le_refl _) (by simp) ?_
                case hd => rfl
                case hg => rfl
                case hr => first | (go_simp; done) | (go_simp; rfl)
                case hp => exact (Reps.c2 (show Kd.M k47 _ _ _ x [.string x.f0, .string x.f1] from k47_mkM _ _ _ x) (Reps.none _ _))
                intro v71 w7 ho hb hg_ hnew_
                clear hg_ hnew_
                have NE_HOd_v71 := Aside0.mk (ne_new HOd.out (Kd.R_base ho))
                have NE_HR_v62_v71 := Aside0.mk (ne_new HR_v62.out (Kd.R_base ho))
                have HOd_n := Aside0.mk (Kd.R_below HOd.out hb)
                have HR_v62_n := Aside0.mk (Kd.R_below HR_v62.out hb)
                have HR_v71 := Aside0.mk (Kd.R_lower ho HB_w6.out.size)
                have HB_w7 := Aside0.mk (below_step HB_w6.out hb)
                clear ho hb
                clear HOd
                clear HR_v62
                have HOd := HOd_n
                have HR_v62 := HR_v62_n
                clear HOd_n HR_v62_n
                refine hK.out _ _ ⟨(HB_w7.out.cell (block_lt_of_cell HXw0.out)).trans HXw0.out, (HB_w7.out.cell (block_lt_of_cell HXw1.out)).trans HXw1.out⟩ (fun hHeld => ?_)
                clear hK K
                refine norm_ (a' := ?_) ?_ ?_
                rotate_left
                · show Act.put _ (some 71) _ = _
                  simp only [Act.put, List.setIfInBounds_toArray, List.set_cons_zero, List.set_cons_succ]
                  rfl
                have NE_71_62 := Aside0.mk (ne_swap NE_HR_v62_v71.out)
                refine one_ (i := 4) (N := some 66) #[true, true, true, true, true, true, true, true, true, true, false, true, true, true, false, false] rfl rfl (one_of HT_.out (by kernel_rfl)) (by decide) (fun K hK => ?_)
                refine app_step (w0 := w) w.heap.size (by rfl) (.tmp 62) (.tmp 65) rfl v62 [] (out.take out.length) _ _ _ rfl rfl HR_v62.out (by have hc := Kd.C_take (m := out.length) (Kd.R_reads' HOd.out).2.2 (by omega); simpa only [List.length_take, Nat.min_eq_left hk4] using hc) HB_w7.out HB_w7.out.size ?len ?_
                case len => simp only [List.length_append, List.length_take, List.length_drop, List.length_cons, List.length_nil]; omega
                intro v66 w8 ho hb hg hat
                have NE_HOd_v66 := Aside0.mk (ne_hat NE_HOd_v62.out HOd.out hat)
                have NE_HR_v71_v66 := Aside0.mk (ne_hat NE_71_62.out HR_v71.out hat)
                have HOd_n := Aside0.mk (R47_grown HOd.out hg NE_HOd_v62.out)
                have HR_v71_n := Aside0.mk (R47_grown HR_v71.out hg NE_71_62.out)
                have HR_v66 := Aside0.mk ho
                have HB_w8 := Aside0.mk hb
                clear ho hb hg hat
                clear HOd
                clear HR_v71
                have HOd := HOd_n
                have HR_v71 := HR_v71_n
                clear HOd_n HR_v71_n
                refine hK.out _ _ ⟨(HB_w8.out.cell (block_lt_of_cell HXw0.out)).trans HXw0.out, (HB_w8.out.cell (block_lt_of_cell HXw1.out)).trans HXw1.out⟩ (fun hHeld => ?_)
                clear hK K
                refine norm_ (a' := ?_) ?_ ?_
                rotate_left
                · show Act.put _ (some 66) _ = _
                  simp only [Act.put, List.setIfInBounds_toArray, List.set_cons_zero, List.set_cons_succ]
                  rfl
                exact norm_ (by simp only [putAll, Act.put, List.setIfInBounds_toArray, List.set_cons_zero, List.set_cons_succ]) (hCont (v62, v66, v71) _ ⟨hHeld, HOd.out, HR_v66.out, HR_v71.out, NE_HOd_v66.out, NE_HR_v71_v66.out, HB_w8.out⟩)
            · refine Kd.R_lit_step k47 _ 47 ?hg (N := 71) ?hd (xs := [x]) (inner := [.string x.f0, .string x.f1]) (ok := fun _ => True) (okp := fun _ => True) ?hr ?hp (fun _ hk => hk) trivial (Below.refl _ _) (Nat.le_refl _) (by simp) ?_
              case hd => rfl
              case hg => rfl
              case hr => first | (go_simp; done) | (go_simp; rfl)
              case hp => exact (Reps.c2 (show Kd.M k47 _ _ _ x [.string x.f0, .string x.f1] from k47_mkM _ _ _ x) (Reps.none _ _))
              intro v71 w6 ho hb hg_ hnew_
              clear hg_ hnew_
              have NE_HOd_v71 := Aside0.mk (ne_new HOd.out (Kd.R_base ho))
              have HOd_n := Aside0.mk (Kd.R_below HOd.out hb)
              have HR_v71 := Aside0.mk (Kd.R_lower ho HBd.out.size)
              have HB_w6 := Aside0.mk (below_step HBd.out hb)
              clear ho hb
              clear HOd
              have HOd := HOd_n
              clear HOd_n
              refine hK.out _ _ ⟨(HB_w6.out.cell (block_lt_of_cell HXw0.out)).trans HXw0.out, (HB_w6.out.cell (block_lt_of_cell HXw1.out)).trans HXw1.out⟩ (fun hHeld => ?_)
              clear hK K
              refine norm_ (a' := ?_) ?_ ?_
              rotate_left
              · show Act.put _ (some 71) _ = _
                simp only [Act.put, List.setIfInBounds_toArray, List.set_cons_zero, List.set_cons_succ]
                rfl
              refine one_ (i := 0) (N := some 62) #[true, true, true, true, false, true, true, true, true, true, false, true, true, true, false, false] rfl rfl (one_of HT_.out (by kernel_rfl)) (by decide) (fun K hK => ?_)
              refine Kd.R_lit_step k47 _ 47 ?hg (N := 62) ?hd (xs := ([] : List S47)) (inner := []) (ok := fun _ => True) (okp := fun _ => True) ?hr ?hp (fun _ hk => hk) trivial (Below.refl _ _) (Nat.le_refl _) (by simp) ?_
              case hd => rfl
              case hg => rfl
              case hr => first | (go_simp; done) | (go_simp; rfl)
              case hp => exact (Reps.none _ _)
              intro v62 w7 ho hb hg_ hnew_
              clear hg_ hnew_
              have NE_HOd_v62 := Aside0.mk (ne_new HOd.out (Kd.R_base ho))
              have NE_HR_v71_v62 := Aside0.mk (ne_new HR_v71.out (Kd.R_base ho))
              have HOd_n := Aside0.mk (Kd.R_below HOd.out hb)
              have HR_v71_n := Aside0.mk (Kd.R_below HR_v71.out hb)
              have HR_v62 := Aside0.mk (Kd.R_lower ho HB_w6.out.size)
              have HB_w7 := Aside0.mk (below_step HB_w6.out hb)
              clear ho hb
              clear HOd
              clear HR_v71
              have HOd := HOd_n
              have HR_v71 := HR_v71_n
              clear HOd_n HR_v71_n
              refine hK.out _ _ ⟨(HB_w7.out.cell (block_lt_of_cell HXw0.out)).trans HXw0.out, (HB_w7.out.cell (block_lt_of_cell HXw1.out)).trans HXw1.out⟩ (fun hHeld => ?_)
              clear hK K
              refine norm_ (a' := ?_) ?_ ?_
              rotate_left
              · show Act.put _ (some 62) _ = _
                simp only [Act.put, List.setIfInBounds_toArray, List.set_cons_zero, List.set_cons_succ]
                rfl
              refine one_ (i := 4) (N := some 66) #[true, true, true, true, true, true, true, true, true, true, false, true, true, true, false, false] rfl rfl (one_of HT_.out (by kernel_rfl)) (by decide) (fun K hK => ?_)
              refine app_step (w0 := w) w.heap.size (by rfl) (.tmp 62) (.tmp 65) rfl v62 [] (out.take out.length) _ _ _ rfl rfl HR_v62.out (by have hc := Kd.C_take (m := out.length) (Kd.R_reads' HOd.out).2.2 (by omega); simpa only [List.length_take, Nat.min_eq_left hk4] using hc) HB_w7.out HB_w7.out.size ?len ?_
              case len => simp only [List.length_append, List.length_take, List.length_drop, List.length_cons, List.length_nil]; omega
              intro v66 w8 ho hb hg hat
              have NE_HOd_v66 := Aside0.mk (ne_hat NE_HOd_v62.out HOd.out hat)
              have NE_HR_v71_v66 := Aside0.mk (ne_hat NE_HR_v71_v62.out HR_v71.out hat)
              have HOd_n := Aside0.mk (R47_grown HOd.out hg NE_HOd_v62.out)
              have HR_v71_n := Aside0.mk (R47_grown HR_v71.out hg NE_HR_v71_v62.out)
              have HR_v66 := Aside0.mk ho
              have HB_w8 := Aside0.mk hb
              clear ho hb hg hat
              clear HOd
              clear HR_v71
              have HOd := HOd_n
              have HR_v71 := HR_v71_n
              clear HOd_n HR_v71_n
              refine hK.out _ _ ⟨(HB_w8.out.cell (block_lt_of_cell HXw0.out)).trans HXw0.out, (HB_w8.out.cell (block_lt_of_cell HXw1.out)).trans HXw1.out⟩ (fun hHeld => ?_)
              clear hK K
              refine norm_ (a' := ?_) ?_ ?_
              rotate_left
              · show Act.put _ (some 66) _ = _
                simp only [Act.put, List.setIfInBounds_toArray, List.set_cons_zero, List.set_cons_succ]
                rfl
              exact norm_ (by simp only [putAll, Act.put, List.setIfInBounds_toArray, List.set_cons_zero, List.set_cons_succ]) (hCont (v62, v66, v71) _ ⟨hHeld, HOd.out, HR_v66.out, HR_v71.out, NE_HOd_v66.out, NE_HR_v71_v66.out, HB_w8.out⟩)
          rintro ⟨v62, v66, v71⟩ w8 ⟨hHeld, h0_, h1_, h2_, h3_, h4_, h5_⟩
          have HOd := Aside0.mk h0_
          have HR_v66 := Aside0.mk h1_
          have HR_v71 := Aside0.mk h2_
          have NE_HOd_v66 := Aside0.mk h3_
          have NE_71_66 := Aside0.mk h4_
          have HB_w8 := Aside0.mk h5_
          clear h0_ h1_ h2_ h3_ h4_ h5_
          obtain ⟨A71, c71, e71⟩ := Kd.R_slice HR_v71.out
          subst e71
          refine norm_ (a' := ?_) ?_ ?_
          rotate_left
          · simp only [putAll, Act.put, List.setIfInBounds_toArray, List.set_cons_zero, List.set_cons_succ]
            rfl
          refine one_ (i := 10) (N := some 72) #[true, true, true, true, true, true, true, true, true, true, true, true, true, true, false, false] rfl rfl (one_of HT_.out (by kernel_rfl)) (by decide) (fun K hK => ?_)
          refine app_step (w0 := w) w.heap.size (by rfl) (.tmp 66) (.tmp 71) rfl v66 (out.take out.length) [x] _ _ _ rfl rfl HR_v66.out ((Kd.R_reads' HR_v71.out).2.2) HB_w8.out HB_w8.out.size ?len ?_
          case len => simp only [List.length_append, List.length_take, List.length_drop, List.length_cons, List.length_nil]; omega
          intro v72 w9 ho hb hg hat
          have NE_HOd_v72 := Aside0.mk (ne_hat NE_HOd_v66.out HOd.out hat)
          have HOd_n := Aside0.mk (R47_grown HOd.out hg NE_HOd_v66.out)
          have HR_v72 := Aside0.mk ho
          have HB_w9 := Aside0.mk hb
          clear ho hb hg hat
          clear HOd
          have HOd := HOd_n
          clear HOd_n
          refine hK.out _ _ ⟨(HB_w9.out.cell (block_lt_of_cell HXw0.out)).trans HXw0.out, (HB_w9.out.cell (block_lt_of_cell HXw1.out)).trans HXw1.out⟩ (fun hHeld => ?_)
          clear hK K
          refine norm_ (a' := ?_) ?_ ?_
          rotate_left
          · show Act.put _ (some 72) _ = _
            simp only [Act.put, List.setIfInBounds_toArray, List.set_cons_zero, List.set_cons_succ]
            rfl
          refine one_ (i := 14) (N := some 76) #[true, true, true, true, true, true, true, true, true, true, true, true, true, true, true, false] rfl rfl (one_of HT_.out (by kernel_rfl)) (by decide) (fun K hK => ?_)
          refine app_step (w0 := w) w.heap.size (by rfl) (.tmp 72) (.tmp 75) rfl v72 (out.take out.length ++ [x]) (out.drop out.length) _ _ _ rfl rfl HR_v72.out (by have hc := Kd.C_drop (m := out.length) (c := cv) (Kd.R_reads' HOd.out).2.2 (by omega) (Kd.R_reads' HOd.out).2.1; first | (rw [List.length_drop] at hc; exact hc) | (rw [List.length_drop, Nat.sub_self] at hc; exact hc)) HB_w9.out HB_w9.out.size ?len ?_
          case len => simp only [List.length_append, List.length_take, List.length_drop, List.length_cons, List.length_nil]; omega
          intro v76 w10 ho hb hg hat
          have NE_HOd_v76 := Aside0.mk (ne_hat NE_HOd_v72.out HOd.out hat)
          have HOd_n := Aside0.mk (R47_grown HOd.out hg NE_HOd_v72.out)
          have HR_v76 := Aside0.mk ho
          have HB_w10 := Aside0.mk hb
          clear ho hb hg hat
          clear HOd
          have HOd := HOd_n
          clear HOd_n
          refine hK.out _ _ ⟨(HB_w10.out.cell (block_lt_of_cell HXw0.out)).trans HXw0.out, (HB_w10.out.cell (block_lt_of_cell HXw1.out)).trans HXw1.out⟩ (fun hHeld => ?_)
          clear hK K
          refine norm_ (a' := ?_) ?_ ?_
          rotate_left
          · show Act.put _ (some 76) _ = _
            simp only [Act.put, List.setIfInBounds_toArray, List.set_cons_zero, List.set_cons_succ]
            rfl
          refine pure_ (i := 15) (N := some 5) (v := ?_) (a' := ?_) #[true, true, true, true, true, true, true, true, true, true, true, true, true, true, true, true] rfl rfl (any_of HT_.out (by kernel_rfl)) (fun _ _ _ h => h) (Or.inl ⟨by rfl, ?_⟩) ?_ ?_
          rotate_left
          · intro w'
            go_simp
            with_reducible rfl
          rotate_left
          · simp only [Act.put, List.setIfInBounds_toArray, List.set_cons_zero, List.set_cons_succ]
            rfl
          refine done_ (done_of HT_.out (by kernel_rfl)) ?_
          have HST := Aside0.mk (ins_step l0 i hi0 HN.out out.length (by rw [← HOUT.out]; omega) (by rw [← HX.out, ← HOUT.out]; exact HK.out) (by rw [← HX.out, ← HOUT.out]; exact HGT.out))
          clear hHeld HT_ HW_
          go_wp2_with fail
          all_goals
            go_roundg (l0.length - (i + 1))
            case measure => omega
            case rel => exact ⟨i + 1, by go_num, by omega, ⟨by omega⟩, ⟨HB_w10.out⟩, ⟨HST.out.1⟩, ⟨by rw [HST.out.2, ← HOUT.out, ← HX.out]; exact HR_v76.out⟩⟩
      · have hi1 : i = l0.length := by omega
        have HE := ins_end l0 HA2.out (by have := HN.out; rwa [List.take_of_length_le (by omega)] at this)
        have HOUT2 := Aside0.mk (show out = srt l0 by rw [HOUT.out, List.take_of_length_le (by omega)])
        by_cases h16 : (16 : Int) < (out.length : Int)
        · rw [if_pos (by omega)] at HE
          obtain ⟨rfl, rfl⟩ := Prod.mk.inj (HE.symm.trans HH.out)
          clear HE hi1
          go_wp2_with fail
          go_ret2
          exact ⟨_, rfl, Kd.R_nil _ _ _ _ _, HB.out⟩
        · rw [if_neg (by omega)] at HE
          obtain ⟨rfl, rfl⟩ := Prod.mk.inj (HE.symm.trans HH.out)
          clear HE hi1
          go_wp2_with fail
          go_ret2
          exact ⟨.slice Av i cv, rfl, by rw [← HOUT2.out]; have := HO.out; rwa [hlen] at this, HB.out⟩
  · rw [if_neg hf] at h; cases h
end Go.Proofs.YtmhilolgjcfhjaaGreat.X
