/- A part of the proof of FilesFitCardSaid: M37. -/
import Derived.Test.YtamefnngdhbjiaaGreatDoorFitB8
import Derived.Test.YtamefnngdhbjiaaGreatDoorRows
import Derived.Lay
import Derived.JoinedOf
set_option linter.all false
section
set_option maxRecDepth 100000
namespace Go.Mm
open Go.RowKit Go.Proofs Go.Proofs.YtamefnngdhbjiaaGreatDoor
noncomputable instance globs : Globs where
  glob g := if g = 2 then some (flatD (Rows.laid_unicode_utf8_acceptRanges (H := Unit))) else if g = 1 then some (flatD Rows.laid_unicode_utf8_first) else none
  lit g cs h := by
    by_cases h2 : g = 2
    · rw [if_pos h2] at h; injection h with h; subst h; kernel_rfl
    · rw [if_neg h2] at h
      by_cases h1 : g = 1
      · rw [if_pos h1] at h; injection h with h; subst h; kernel_rfl
      · rw [if_neg h1] at h; cases h
theorem own : ownKnob Tryz.prog.godebug = none := by kernel_rfl
theorem laidOut : laidOutB Tryz.prog = true := by kernel_rfl
theorem mixed : Tryz.prog.follows .mixedOrders = true := by kernel_rfl
theorem funcsOk : Tryz.prog.funcs.toList.all funcOk = true := by kernel_rfl
noncomputable def laids : List (String × DataW Unit) := [("unicode/utf8.acceptRanges", Rows.laid_unicode_utf8_acceptRanges), ("unicode/utf8.first", Rows.laid_unicode_utf8_first)]
theorem noHandles : laids.filter (fun x => x.2.handleName?.isSome) = [] := by kernel_rfl
theorem laidMetH_eq {W : World} : laidMetH Tryz.prog laids W ↔ laidMet Tryz.prog laids W := by
  unfold laidMetH
  rw [noHandles]
theorem laid_met (os : Os) (args : Array Value) : laidMetH Tryz.prog laids ((World.laidAll Tryz.prog os laids).forCall (fun _ _ => 0) ⟨#[], args, []⟩).memory :=
  laidMetH_eq.2 (laidMet_laidAll args (by kernel_rfl) (by kernel_rfl))
theorem g2 : Tryz.prog.globalNamed "unicode/utf8.acceptRanges" = some 2 := by kernel_rfl
theorem g1 : Tryz.prog.globalNamed "unicode/utf8.first" = some 1 := by kernel_rfl
theorem t2 : ((Tryz.prog.globals[2]?).map (·.type)).all (fun t => flatT Tryz.prog 6 t) = true := by kernel_rfl
theorem t1 : ((Tryz.prog.globals[1]?).map (·.type)).all (fun t => flatT Tryz.prog 6 t) = true := by kernel_rfl
theorem globs_of {W : World} (h : laidMetH Tryz.prog laids W) : GR (still W) := by
  obtain ⟨ps, ⟨g, t, cs, fuel, p, q, e1, e2, e3, e4, ⟨g', t', cs', fuel', p', q', f1, f2, f3, f4, _⟩, _⟩, _⟩ := laidMetH_eq.1 h
  rw [g2] at e1; injection e1 with e1; subst e1
  rw [g1] at f1; injection f1 with f1; subst f1
  have ht : flatT Tryz.prog 6 t = true := by have := t2; rw [e2] at this; exact this
  have ht' : flatT Tryz.prog 6 t' = true := by have := t1; rw [f2] at this; exact this
  intro g cs hg
  simp only [Globs.glob] at hg
  by_cases h2 : g = 2
  · subst h2
    rw [if_pos rfl] at hg; injection hg with hg; subst hg
    exact laid_glob g2 e3 e4 ht
  · rw [if_neg h2] at hg
    by_cases h1 : g = 1
    · subst h1
      rw [if_pos rfl] at hg; injection hg with hg; subst hg
      exact laid_glob g1 f3 f4 ht'
    · rw [if_neg h1] at hg; cases hg
theorem plainF : ([24, 3, 9, 25].all fun t => plainT Tryz.prog 6 t) = true := by kernel_rfl
theorem readF : ([24, 3, 9, 25].all fun t => Tryz.prog.readableRec t && decide (t < Tryz.prog.types.size)) = true := by kernel_rfl
theorem params3 : Tryz.f3.params.toList = [24, 3, 9, 25] := by kernel_rfl
theorem func3 : Tryz.prog.funcs[3]? = some Tryz.f3 := by kernel_rfl
theorem bool4 : Tryz.prog.underlying 4 = some .bool := by kernel_rfl
theorem fit_lifted {C : Cfg} (hx : ExtOk C Tryz.prog) (hrun : ∀ xs, TypL Tryz.prog [24, 3, 9, 25] xs → refsL xs = [] → BodyW C Tryz.prog 3 xs [] fun d _ => d = .bool true)
    (os : Os) (started : os.Started) (H : Type) (enc : TypeId × Value → H) :
    ReturnsInHanded {} Tryz.checked os 3 .any (fun w args => (Rows.filesFitSpec.pre enc Tryz.prog Tryz.f3 [] false w args ∧ laidMetH Tryz.prog laids w) ∧ sizedMet enc Tryz.prog Tryz.f3 (OpenSpec.ofChange Rows.filesFitSpec) false w args)
      (Rows.filesFitSpec.post enc Tryz.prog Tryz.f3 false true false false) := by
  refine returnsInHanded_of_change_and (C := Tryz.checked) (X := fun w _ => laidMetH Tryz.prog laids w) (fun _ _ _ hh h => h.of_heap hh) own started (by kernel_rfl) func3
    (ChangeSpec.witness_at (enc := enc) (C := Tryz.checked) (os := os) (X := fun w _ => laidMetH Tryz.prog laids w) false (World.laidAll Tryz.prog os laids) #[.agg #[.slice none 0 0, .int .i64 0, .int .i64 0], .int .i64 0, .string ByteArray.empty, .slice none 0 0] 8 (World.laidAll_os _ _ _) (by kernel_rfl) (by kernel_rfl) (by kernel_rfl) (by kernel_rfl) (by kernel_rfl) (laid_met os _)) ?_
  intro W base args ds gs before hval hW _ hZ hL _
  have hW' := hW
  obtain ⟨p, q, hA, hV, rfl, hfz, hnd⟩ := hW
  have hA' : DataW.TrodAll enc Tryz.prog W 0 (fun _ => true) true [24, 3, 9, 25] args.toList ds p := by rw [← params3]; exact hA
  obtain ⟨rfl, rfl⟩ : gs = [] ∧ q = [] := by
    cases gs with
    | nil => exact ⟨rfl, hV⟩
    | cons g r => exact absurd hV (by intro h; cases h)
  have hval' : ∀ (j : Nat) t v, ([24, 3, 9, 25] : List TypeId)[j]? = some t → args.toList[j]? = some v → Value.okWide Tryz.prog W .any base t v := fun j t v h1 h2 => by
    refine hval j t v ?_ (by simpa using h2)
    rw [← params3] at h1
    simpa using h1
  obtain ⟨xs, r1, r2, r3⟩ := args_R (S := still W) rfl (fun _ h => h) plainF hA' hval' (fun n hn => by
    have h9 := List.all_eq_true.1 hZ n (by
      have hv : DataSpec.varTypes Tryz.checked.prog Rows.filesFitSpec.plain = [] := rfl
      rw [params3, hv, List.append_nil, List.append_nil]; exact hn)
    simpa using h9)
  have hc := call_end mixed funcsOk hx (f := 3) (globs_of hL) r1 (hrun xs r2 r3)
  rw [show args.toList.toArray = args by simp] at hc
  have hds : ∃ d1 d2 d3 d4, ds = [d1, d2, d3, d4] := by
    obtain ⟨_, _, d1, ds1, _, _, _, rfl, _, _, h1⟩ := Go.ChangeShapes.trodAll_cons hA'
    obtain ⟨_, _, d2, ds2, _, _, _, rfl, _, _, h2⟩ := Go.ChangeShapes.trodAll_cons h1
    obtain ⟨_, _, d3, ds3, _, _, _, rfl, _, _, h3⟩ := Go.ChangeShapes.trodAll_cons h2
    obtain ⟨_, _, d4, ds4, _, _, _, rfl, _, _, h4⟩ := Go.ChangeShapes.trodAll_cons h3
    obtain ⟨_, rfl, _⟩ := Go.ChangeShapes.trodAll_nil h4
    exact ⟨d1, d2, d3, d4, rfl⟩
  obtain ⟨d1, d2, d3, d4, rfl⟩ := hds
  have e1 : Rows.filesFitSpec.fn H ([d1, d2, d3, d4] ++ []) = { results := [.lit (.bool true)], args := [d1, d2, d3, d4] } := rfl
  refine hc.mono fun e W' ⟨he, bel⟩ => ?_
  subst he
  refine ⟨_, rfl, _, _, _, [], p, [], hW', ?_, ?_, ?_, bel.frame _, fun h => by cases h⟩
  · rw [e1]; exact Go.ChangeShapes.trodAll_mk1 (shut_bool bool4 true)
  · rw [e1]
    have := args_stay (enc := enc) laidOut bel readF hA'
    rw [← params3] at this
    exact this
  · rw [e1]; rfl
theorem fit_holds {C : Cfg} (hx : ExtOk C Tryz.prog) (hrun : ∀ xs, TypL Tryz.prog [24, 3, 9, 25] xs → refsL xs = [] → BodyW C Tryz.prog 3 xs [] fun d _ => d = .bool true) : Rows.FilesFitSaid :=
  OpenClaim.holds_of_wide 3 Tryz.f3 rfl rfl rfl rfl rfl rfl rfl ⟨rfl, rfl, rfl, rfl, rfl⟩ rfl rfl rfl rfl rfl (by kernel_rfl) func3 (by kernel_rfl)
    (of_decide_eq_true (by kernel_rfl)) (by unfold Func.isWrapper; first | (rw [if_pos (by decide +kernel)]; kernel_rfl) | (rw [if_neg (by decide +kernel)]; exact ⟨rfl, rfl⟩))
    (fun os started H enc _ => fit_lifted hx hrun os started H enc)
end Go.Mm
end
