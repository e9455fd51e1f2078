/- LabelsAsk: the plain law: it answers true; a matcher that comes in by itself. -/
import Derived.Test.YtmhilolgjcfhjaaGreatGM
import Derived.Test.YtmhilolgjcfhjaaGreatGL
import Derived.Test.YtmhilolgjcfhjaaGreatTLabelsAskB
set_option linter.unusedVariables false
set_option linter.unusedSimpArgs false

/- A matcher that comes in by itself, read out of a row. -/
namespace Go.Proofs.YtmhilolgjcfhjaaGreat.X
open Go.ChangeShapes Go.WideShapes Go.Deep Go.RowKit Go.Proofs.YtmhilolgjcfhjaaGreatW.PrintWords

set_option maxRecDepth 100000 in
theorem open_matcher {H : Type} {enc : TypeId × Value → H} {W : World} {base base' : Nat} {spare : Nat → Bool} {held : Bool} {v : Value} {d : DataW H} {ps : List MemPlace} {r : Reach}
    (hv : Value.okWide Tryz.prog W r base' 35 v) (h : DataW.Trod enc Tryz.prog W base spare held 35 v d ps) (hsz : ∀ n ∈ d.weights Tryz.prog 35, n ≤ reachBytes) :
    ∃ m : S35, v = .agg #[.string m.f0, .string m.f1, .string m.f2] ∧ InS m.f0 ∧ InS m.f1 ∧ InS m.f2 := by
  obtain ⟨cs, rfl, hcs⟩ := okWide_struct Tryz.underlying35 hv
  have c35 : Tryz.prog.cellsOf 35 = 3 := by kernel_rfl
  have c9 : Tryz.prog.cellsOf 9 = 1 := by kernel_rfl
  obtain ⟨fuel, hf⟩ := h
  obtain ⟨y0, y1, y2, k, hk, _, g0, g1, g2⟩ := trod_struct3 Tryz.underlying35 hf
  rw [c9] at g0 g1 g2
  obtain ⟨l⟩ := cs
  have hl : l.length = 3 := hcs.trans c35
  clear hcs hv
  match l, hl with
  | [v0, v1, v2], _ =>
    simp only [Value.cells, List.drop_zero, List.take_succ_cons, List.take_zero, List.drop_succ_cons] at g0 g1 g2
    obtain ⟨s0, e0, p0, _⟩ := DataW.trod_string Tryz.underlying9 g0
    obtain ⟨s1, e1, p1, _⟩ := DataW.trod_string Tryz.underlying9 g1
    obtain ⟨s2, e2, p2, _⟩ := DataW.trod_string Tryz.underlying9 g2
    simp only [List.cons.injEq, and_true] at e0 e1 e2
    subst e0; subst e1; subst e2; subst p0; subst p1; subst p2
    simp only [Prod.mk.injEq] at hk
    obtain ⟨hd, _⟩ := hk
    subst hd
    simp [DataW.weights, DataW.weightsEach, Tryz.underlying35] at hsz
    exact ⟨⟨s0, s1, s2⟩, rfl, hsz⟩
end Go.Proofs.YtmhilolgjcfhjaaGreat.X

/- LabelsAsk in plain Lean: = and != are each other's opposite, ^= and !^ too; the empty beginning is everybody's; more matchers match less. -/
namespace Go.Proofs.YtmhilolgjcfhjaaGreat.Pure
open Go.RowKit Go.Proofs.YtmhilolgjcfhjaaGreat.X Go.Proofs.YtmhilolgjcfhjaaGreatW.PrintWords Go.Proofs.YtmhilolgjcfhjaaGreatW.PrintLast Go.Proofs.YtmhilolgjcfhjaaGreatW.PrintMore

theorem ask_fits {l : List S47} (h : InL l) : fits47 l := ⟨by have := h.1; omega, fun x hx => by have := (h.2 x hx).1; unfold InS at this; omega⟩
theorem match_f {l : List S47} (h : l.length ≤ 16) {ms : List S35} (hm : ms.length ≤ 1000) : labels_Match.f l ms = some (ms.all (matchB l)) := by
  unfold labels_Match.f; rw [if_pos ⟨by omega, by omega⟩]
theorem op_list (u : List UInt8) : (⟨u.toArray⟩ : ByteArray).toList = u := by rw [ByteArray.toList_eq]
theorem m_eq (v w : ByteArray) : mB v ⟨#[61]⟩ w = (v.toList == w.toList) := by
  unfold mB; rw [if_pos (op_list [61])]
theorem m_ne (v w : ByteArray) : mB v ⟨#[33, 61]⟩ w = !(v.toList == w.toList) := by
  unfold mB; rw [if_neg (by rw [op_list [33, 61]]; decide), if_pos (op_list [33, 61])]
theorem m_be (v w : ByteArray) : mB v ⟨#[94, 61]⟩ w = begB v w := by
  unfold mB; rw [if_neg (by rw [op_list [94, 61]]; decide), if_neg (by rw [op_list [94, 61]]; decide), if_pos (op_list [94, 61])]
theorem m_nb (v w : ByteArray) : mB v ⟨#[33, 94]⟩ w = !begB v w := by
  unfold mB; rw [if_neg (by rw [op_list [33, 94]]; decide), if_neg (by rw [op_list [33, 94]]; decide), if_neg (by rw [op_list [33, 94]]; decide), if_pos (op_list [33, 94])]
theorem ext_list (v : ByteArray) (n : Nat) : (v.extract 0 n).toList = v.toList.take n := by
  rw [ByteArray.toList_eq, ByteArray.toList_eq, ByteArray.data_extract, Array.toList_extract, List.extract_eq_take_drop, List.drop_zero, Nat.sub_zero]
theorem beg_self (v : ByteArray) : begB v v = true := by
  unfold begB
  rw [if_pos (Nat.le_refl _), ext_list, List.take_of_length_le (by rw [ByteArray.toList_eq]; exact Nat.le_refl _)]
  exact beq_self_eq_true _
theorem beg_nil (v : ByteArray) : begB v ⟨#[]⟩ = true := by
  unfold begB
  have h0 : (⟨#[]⟩ : ByteArray).size = 0 := rfl
  have h1 : (⟨#[]⟩ : ByteArray).toList = [] := op_list []
  rw [h0, if_pos (Nat.zero_le _), ext_list, h1, List.take_zero]
  rfl
theorem match_1 {l : List S47} (h : l.length ≤ 16) (m : S35) : labels_Match.f l [m] = some (matchB l m) := by
  rw [match_f h (by rw [List.length_singleton]; omega), List.all_cons, List.all_nil, Bool.and_true]
theorem one (l : List S47) (m : S35) : [m].all (matchB l) = matchB l m := by rw [List.all_cons, List.all_nil, Bool.and_true]
theorem ask_j2 (l : List S47) (ms : List S35) (p o v : ByteArray) (hl : l.length ≤ 16) (hm : ms.length ≤ 60) : Ev (fun k => klaxonlaw09_LabelsAsk.j2 k l ms false p o v) true := by
  refine Ev.step (fun k => by rw [klaxonlaw09_LabelsAsk.j2]) ?_
  refine Ev.ifn (by decide) (Ev.bind (Ev.now []) (Ev.ifp (by simp; omega) ?_))
  rw [List.nil_append]
  refine Ev.bind (Ev.now ms) (Ev.bind (Ev.now [(⟨p, o, v⟩ : S35)]) (Ev.ifp (by simp; omega) ?_))
  rw [match_f hl (by simp; omega), match_f hl (by omega), match_1 hl]
  refine Ev.bind (Ev.now _) (Ev.bind (Ev.now _) ?_)
  rw [List.all_append, one]
  by_cases c : ms.all (matchB l) = true
  · refine Ev.ifp c (Ev.bind (Ev.now _) (Ev.ifp (by rw [c]; simp) ?_))
    exact Ev.bind live_ev (Ev.now _)
  · refine Ev.ifn c (Ev.ifp (by rw [eq_false_of_ne_true c]; simp) ?_)
    exact Ev.bind live_ev (Ev.now _)
theorem ask_j1 (l : List S47) (ms : List S35) (p q s t o v : ByteArray) (hl : l.length ≤ 16) (hm : ms.length ≤ 60) : Ev (fun k => klaxonlaw09_LabelsAsk.j1 k l ms false p q s t o v) true := by
  refine Ev.step (fun k => by rw [klaxonlaw09_LabelsAsk.j1]) ?_
  rw [match_f hl (ms := []) (by decide), match_1 hl]
  refine Ev.ifn (by decide) (Ev.bind (Ev.now _) (Ev.ifp rfl (Ev.bind (Ev.now _) ?_)))
  rw [show matchB l ⟨p, ⟨#[94, 61]⟩, ⟨#[]⟩⟩ = true from (m_be _ _).trans (beg_nil _)]
  exact ask_j2 l ms t o v hl hm
theorem ask_j0 (l : List S47) (ms : List S35) (p q s : ByteArray) (b : Bool) (h : b = false → l.length ≤ 16 ∧ ms.length ≤ 60) : Ev (fun k => klaxonlaw09_LabelsAsk.j0 k l ms b p q s) true := by
  refine Ev.step (fun k => by rw [klaxonlaw09_LabelsAsk.j0]) ?_
  cases b with
  | true => exact Ev.ifp rfl (Ev.bind live_ev (Ev.now _))
  | false =>
    obtain ⟨hl, hm⟩ := h rfl
    refine Ev.ifn (by decide) ?_
    rw [match_1 hl, match_1 hl, match_1 hl, match_1 hl]
    rw [show matchB l ⟨p, ⟨#[61]⟩, s⟩ = ((getB l p).toList == s.toList) from m_eq _ _, show matchB l ⟨p, ⟨#[33, 61]⟩, s⟩ = !((getB l p).toList == s.toList) from m_ne _ _, show matchB l ⟨p, ⟨#[94, 61]⟩, s⟩ = begB (getB l p) s from m_be _ _, show matchB l ⟨p, ⟨#[33, 94]⟩, s⟩ = !begB (getB l p) s from m_nb _ _]
    refine Ev.bind (Ev.now _) (Ev.bind (Ev.now _) (Ev.ifn (by simp) (Ev.bind (Ev.now _) (Ev.bind (Ev.now _) (Ev.ifn (by simp) (Ev.bind (Ev.now _) ?_))))))
    by_cases c : ((getB l p).toList == s.toList) = true
    · refine Ev.ifp c (Ev.bind (Ev.now _) ?_)
      rw [eqL] at c
      rw [of_decide_eq_true c, beg_self]
      exact ask_j1 l ms p q s p _ s hl hm
    · exact Ev.ifn c (ask_j1 l ms p q s p _ s hl hm)
theorem LabelsAsk (l : List S47) (m : S35) (ms : List S35) (h0 : InL l) (_ : InS m.f0 ∧ InS m.f1 ∧ InS m.f2) (_ : InM ms) : ∃ k, klaxonlaw09_LabelsAsk.f k l m.f0 m.f1 m.f2 ms = some true := by
  refine Ev.rounds (g := fun k => klaxonlaw09_LabelsAsk.f k l m.f0 m.f1 m.f2 ms) ?_
  unfold klaxonlaw09_LabelsAsk.f
  rw [set_f (ask_fits h0)]
  refine Ev.bind (Ev.now _) ?_
  by_cases ca : setB l = true
  · refine Ev.ifp ca ?_
    by_cases c : (ms.length : Int) > 60
    · exact Ev.ifp c (ask_j0 l ms _ _ _ true (fun q => by cases q))
    · exact Ev.ifn c (ask_j0 l ms _ _ _ _ (fun _ => ⟨((set_iff l).1 ca).few, by omega⟩))
  · exact Ev.ifn ca (ask_j0 l ms _ _ _ true (fun q => by cases q))
end Go.Proofs.YtmhilolgjcfhjaaGreat.Pure
