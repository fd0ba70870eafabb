/- EfilePacks: any return's bytes are the document's, or both say that it may not be packed: the row's statement and the card. -/
import Derived.Test.YtndfjapojjinaaaDoorRp3
import Derived.Test.YtndfjapojjinaaaDoorCards
import Derived.Test.YtndfjapojjinaaaDoorTie
import Derived.ProofKit
import Derived.Lib.LaidTab
import Derived.Deep.DeepLaidRun
namespace Go.Proofs.YtndfjapojjinaaaDoor.EfilePacksProof
set_option linter.unusedVariables false
set_option linter.unusedSimpArgs false
open Go Go.Vx
open Go.ChangeShapes Go.WideShapes Go.ChangeAt Go.RowKit
set_option linter.unusedSimpArgs false
set_option linter.unusedVariables false

theorem own : ownKnob Tryd.prog.godebug = none := by kernel_rfl

set_option maxRecDepth 100000 in
/-- WHAT THE WALK GIVES, FOR EVERY ARGUMENT AND EVERY WORLD. -/
theorem contract (H : Type) (enc : TypeId × Value → H) (W : World) (base : Nat) (args : Array Value) (ds gs : List (DataW H)) (before : List MemPlace)
    (hval : ∀ (j : Nat) t v, Tryd.f4.params[j]? = some t → args[j]? = some v → Value.okWide Tryd.prog W .any base t v)
    (hW : DataW.Whole enc Tryd.prog Tryd.f4.params.toList Rows.efilePacksSpec.vars false W args.toList ds gs before)
    (hwt : (DataW.weightsEach Tryd.prog (Tryd.f4.params.toList ++ (OpenSpec.ofChange Rows.efilePacksSpec).bare.plain.varTypes Tryd.prog) (ds ++ gs)).all (· ≤ reachBytes) = true) :
    Calls Tryd.prog 4 args W fun e W' => ∃ v, e = .returned v ∧ Rows.efilePacksSpec.post enc Tryd.prog Tryd.f4 false true false false W args v W' := by
  have hW' := hW
  obtain ⟨p, q, hA0, hV, rfl, hfz, hnd⟩ := hW
  have hA : DataW.TrodAll enc Tryd.prog W 0 (fun _ => true) true Tryd.f4.params.toList args.toList ds p := hA0
  rw [Tryd.params4] at hA hval hwt
  obtain ⟨v0, vs0, d0, ds0, p0, q0, hargs, rfl, rfl, h0, r0⟩ := trodAll_cons hA
  obtain ⟨v1, vs1, d1, ds1, p1, q1, rfl, rfl, rfl, h1, r1⟩ := trodAll_cons r0
  obtain ⟨rfl, rfl, rfl⟩ := trodAll_nil r1
  obtain rfl : args = #[v0, v1] := by cases args; simp_all
  obtain ⟨rfl, rfl⟩ := trodVars_none hV
  have hweights : ∀ n, n ∈ d0.weights Tryd.prog 28 ++ d1.weights Tryd.prog 28 → n ≤ reachBytes := by
    intro n hn
    have e1 : (OpenSpec.ofChange Rows.efilePacksSpec).bare.plain.varTypes Tryd.prog = [] := by kernel_rfl
    rw [e1] at hwt
    simp only [List.append_nil, DataW.weightsEach, List.all_eq_true, decide_eq_true_eq] at hwt
    exact hwt n (by simpa using hn)
  obtain ⟨f0, t0⟩ := h0
  obtain ⟨f1, t1⟩ := h1
  obtain ⟨e0, l0, g0, w0⟩ := trod_dec argTys_ok f0 28 _ _ (by decide) t0 (fun n hn => hweights n (List.mem_append.2 (.inl hn)))
  obtain ⟨e1, l1, g1, w1⟩ := trod_dec argTys_ok f1 28 _ _ (by decide) t1 (fun n hn => hweights n (List.mem_append.2 (.inr hn)))
  obtain ⟨dig, f, hd, hdb, ⟨hf, hs⟩, rfl⟩ := wt_ret w0
  obtain ⟨dig', f', hd', _, _, rfl⟩ := wt_ret w1
  -- the values themselves
  have agg : ∀ v, Value.okWide Tryd.prog W .any base 28 v → ∃ cs, v = .agg cs := by
    intro v h
    unfold Value.okWide at h
    rw [Tryd.underlying28] at h
    obtain ⟨cs, h, _⟩ := h
    exact ⟨cs, h⟩
  obtain ⟨cs, rfl⟩ := agg v0 (hval 0 28 v0 rfl rfl)
  obtain ⟨cs', rfl⟩ := agg v1 (hval 1 28 v1 rfl rfl)
  have ra : ∀ (ds : List D) (cs : Array Value), ds.length = (Value.agg cs).cells.toList.length → (∀ i y, ds[i]? = some y → Reads (sig W) y ((Value.agg cs).cells.toList.getD i undef)) →
      RA (sig W) (fun _ => none) (.agg (ds.map .d)) (.agg cs) := by
    intro ds cs l0 g0
    refine .agg _ _ (by rw [List.length_map, l0]; show cs.toList.length = cs.size; simp) (fun i x hx => ?_)
    rw [List.getElem?_map] at hx
    obtain ⟨y, hy, rfl⟩ := Option.map_eq_some_iff.1 hx
    have := g0 i y hy
    refine .d _ _ ?_
    have e : ((Value.agg cs).cells.toList).getD i undef = cs.getD i undef := by
      show cs.toList.getD i undef = _
      rw [List.getD_eq_getElem?_getD, Array.getD_eq_getD_getElem?, Array.getElem?_toList]
    rw [e] at this
    exact this
  have ra0 := ra _ _ l0 g0
  have ra1 := ra _ _ l1 g1
  have call := cs_packs hd hd' hdb (f' := f') hf hs (R := fun o => o = .ret [.d (.bool true)] [] []) rfl
  refine (call (topX W) (sig W) (fun _ => none) W #[.agg cs, .agg cs'] (rel_top rfl (fun i x hx => ?_))).mono fun e W' ⟨o, σ', β', ho, hout, hS⟩ => ?_
  · match i, hx with
    | 0, hx => cases hx; exact ra0
    | 1, hx => cases hx; exact ra1
    | i + 2, hx => simp at hx
  subst ho
  obtain ⟨vs, rfl, hrel⟩ := hout
  have hsz : vs.size = 1 := hrel.size
  have hbv : vs.getD 0 undef = .bool true := by
    have := hrel.tmp 0
    cases this with | d _ _ h => generalize vs.getD 0 undef = u at h; cases h; rfl
  have hp : pack vs = .bool true := by
    unfold pack
    rw [dif_pos hsz]
    rw [Array.getD_eq_getD_getElem?, Array.getElem?_eq_getElem (by omega)] at hbv
    exact hbv
  refine ⟨.bool true, by rw [hp], ?_⟩
  have hh : ∀ b, b < W.heap.size → W'.heap[b]? = W.heap[b]? := fun b hb => (hS.xs b hb).1
  refine ⟨[d0, d1], [], _, [], _, [], hW', ?_, trodAll_ext argTys_ok hh _ _ _ _ ?_ hA0, rfl, kept_all hS.os hS.output hh, fun h => (by cases h)⟩
  · exact trodAll_cons_mk (shut_bool Tryd.underlying4 _) trodAll_mk0
  · intro t ht
    rw [Tryd.params4] at ht
    simp at ht
    subst ht; decide

/-- Returns that say nothing. -/
def arg0 : Value := .agg #[.int .u8 0, .int .u8 0, .int .u8 0, .int .u8 0, .int .u8 0, .int .u8 0, .int .u8 0, .int .u8 0, .int .u8 0, .int .u8 0, .int .u8 0, .int .u8 0, .int .u8 0, .int .u8 0, .int .u8 0, .int .u8 0,
  .int .u8 0, .int .u8 0, .int .u8 0, .int .u8 0, .int .u8 0, .int .u8 0, .int .u8 0, .int .u8 0, .int .u8 0, .int .u8 0, .int .u8 0, .int .u8 0, .int .u8 0, .int .u8 0, .int .u8 0, .int .u8 0,
  .slice none 0 0, .slice none 0 0, .slice none 0 0]
def args0 : Array Value := #[arg0, arg0]

/-- Cells laid in a block. -/
def laidIn (l : List Nat) : Obj → Obj
  | .cells _ t frozen => .cells (l.map fun (n : Nat) => Value.int .u8 (n : Int)).toArray t frozen
  | o => o
def accepts : List Nat := [128, 191, 160, 191, 128, 159, 144, 191, 128, 143, 0, 0, 0, 0, 0, 0, 0, 0, 0, 0, 0, 0, 0, 0, 0, 0, 0, 0, 0, 0, 0, 0]
/-- A WORLD FOR THE WITNESS: the settled one, the two tables holding what their initialisers lay. -/
noncomputable def laidWorld (os : Os) : World :=
  { World.holding Tryd.prog os ⟨#[], #[], []⟩ with heap := ((World.holding Tryd.prog os ⟨#[], #[], []⟩).heap.modify 0 (laidIn Go.Pinned.utf8FirstZ)).modify 1 (laidIn accepts) }
theorem laid_met (os : Os) : laidMet Tryd.prog Rows.efilePacksRow.laid ((laidWorld os).forCall (fun _ _ => 0) ⟨#[], args0, []⟩).memory :=
  laidMet_of_run3 8 (by kernel_rfl) (by kernel_rfl) (by kernel_rfl)

def ds0 (H : Type) : List (DataW H) := [.agg [.agg (List.replicate 32 (.lit (.int .u8 0))), .agg [.nil, .nil, .nil]], .agg [.agg (List.replicate 32 (.lit (.int .u8 0))), .agg [.nil, .nil, .nil]]]
theorem reads (os : Os) {H : Type} (enc : TypeId × Value → H) : ∃ places, DataW.whole enc Tryd.prog ((laidWorld os).forCall (fun _ _ => 0) ⟨#[], args0, []⟩).memory Tryd.f4.params.toList Rows.efilePacksSpec.vars false args0.toList 8 = some (ds0 H, [], places) :=
  ⟨[], by kernel_rfl⟩

set_option maxRecDepth 100000 in
/-- THE STEP. -/
theorem lifted (os : Os) (started : os.Started) (H : Type) (enc : TypeId × Value → H) (F : Stop.Interp) :
    ReturnsInHanded {} Tryd.checked os 4 .any ((OpenSpec.ofChange Rows.efilePacksSpec).preRow enc Tryd.prog Tryd.f4 Rows.efilePacksRow.domain false Rows.efilePacksRow.laid) (((OpenSpec.ofChange Rows.efilePacksSpec).at F).post enc Tryd.prog Tryd.f4 false true false false) := by
  obtain ⟨places, hx⟩ := reads os enc
  refine returnsInHanded_of_row (C := Tryd.checked) (s := OpenSpec.ofChange Rows.efilePacksSpec) own started (by kernel_rfl) Tryd.func4
    (witness_row_at (enc := enc) (C := Tryd.checked) false (laidWorld os) args0 rfl (by kernel_rfl) (by kernel_rfl) (by kernel_rfl)
      (OpenSpec.preRow_of_cond 8 hx (by kernel_rfl) (fun k hk => by cases hk) (by kernel_rfl) (laid_met os))) ?_
  intro W base args ds gs before hval hW _ _ hwt _ _ _
  exact contract H enc W base args ds gs before hval hW hwt

theorem said : Rows.EfilePacksSaid :=
  OpenClaim.holds_of_cond 4 Tryd.f4 rfl rfl rfl rfl rfl rfl rfl ⟨rfl, rfl, rfl, rfl, rfl⟩ rfl rfl rfl rfl rfl (by kernel_rfl) Tryd.func4 (by kernel_rfl)
    (of_decide_eq_true (by kernel_rfl)) (by unfold Func.isWrapper; first | (rw [if_pos (by decide +kernel)]; kernel_rfl) | (rw [if_neg (by decide +kernel)]; exact ⟨rfl, rfl⟩))
    (fun os started H enc _ F => by rw [OpenClaim.pre_eq_preRow]; exact lifted os started H enc F)

/-- No parameter wants a stand-in; the program's own looks are off: what the card asks. -/
theorem plain (f : FuncId) (fn : Func) (hf : Tryd.pinned.checked.prog.funcNamed "excise/exciselaw25.EfilePacks" = some f) (hfn : Tryd.pinned.checked.prog.funcs[f]? = some fn) :
    true = Tryd.pinned.checked.prog.looks [] ∧ ∀ (j : Nat) t, fn.params[j]? = some t → Tryd.pinned.checked.prog.wantsStandIn t = false := by
  obtain rfl : f = 4 := Option.some.inj ((show Tryd.prog.funcNamed "excise/exciselaw25.EfilePacks" = some 4 by kernel_rfl).symm.trans hf) |>.symm
  obtain rfl : fn = Tryd.f4 := (Option.some.inj (Tryd.func4.symm.trans hfn)).symm
  refine ⟨by kernel_rfl, fun j t ht => ?_⟩
  rw [Tryd.params4] at ht
  have hm := Array.mem_of_getElem? ht
  simp at hm
  subst hm
  exact (show Tryd.prog.wantsStandIn 28 = false by kernel_rfl)

/-- THE CARD. -/
theorem card : Rows.EfilePacksCardSaid :=
  Claim7.holds_tied_plain_at .later [] _ _ _ _ said (fun _ h => by cases h) (by kernel_rfl) (fun _ h => by cases h) efilePacks_row_tie rfl ⟨rfl, rfl⟩ (by kernel_rfl) rfl plain (by kernel_rfl)

end Go.Proofs.YtndfjapojjinaaaDoor.EfilePacksProof
