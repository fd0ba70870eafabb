/- What was put in, by the document. -/
import Derived.Test.YtndfjapojjinaaaDoorRp2
namespace Go.Vx
set_option linter.unusedVariables false
set_option linter.unusedSimpArgs false
open Go Go.Proofs
set_option linter.unusedSimpArgs false
set_option linter.unusedVariables false
set_option maxRecDepth 10000
set_option maxHeartbeats 4000000

def InstC' (f : Fil) : Prop := InF f → ∀ (R : Out → Prop), R (.ret [.agg ((instF f).map .d)] [] []) → CS Tryd.prog 19 [.agg ((encF f).map .d)] [] [] R

/-- excise/exciseref25.Inst -/
def c19 : AC :=
  .seq (.reg [⟨(some 1), none, .op (.box 3 (.t 0))⟩,
    ⟨(some 2), none, .op (.alloc [.d (.sl 10 []), .d (.sl 1 [])] [(0, 10), (1, 1)])⟩]) <|
  .seq (.reg [⟨(some 3), none, .op (.nil 10)⟩]) <|
  .seq (.reg [⟨(some 8), none, .op (.mv (.t 3) true)⟩,
    ⟨(some 9), none, .op (.fa 0 (.t 1))⟩,
    ⟨(some 10), none, .op (.load false 1 (.t 9) false)⟩,
    ⟨(some 11), none, .op (.app 10 88 (.t 8) (.t 10))⟩,
    ⟨(some 12), none, .op (.build [.nil 10, .nil 1] [(0, 1, (.t 11))])⟩,
    ⟨(some 4), none, .op (.alloc [.d (.sl 10 []), .d (.sl 1 [])] [(0, 10), (1, 1)])⟩,
    ⟨none, none, .op (.store 2 (.t 4) (.t 12))⟩]) <|
  .seq (.seq (.reg [⟨(some 5), none, .op (.mv (.c (.d (.int .i64 0))) true)⟩]) <|
  .block 0 (
    .loop (
      .seq (.seq (.reg [⟨(some 13), none, .op (.mv (.t 5) false)⟩,
        ⟨(some 14), none, .op (.fa 2 (.t 1))⟩,
        ⟨(some 15), none, .op (.load false 1 (.t 14) false)⟩,
        ⟨(some 16), none, .op (.len (.t 15))⟩,
        ⟨(some 17), none, .op (.bin .lss (.t 13) (.t 16))⟩]) <|
      .cond (.t 17) (.skip) (.exit 0)) <|
      .seq (.block 1 (
        .seq (.reg [⟨(some 6), none, .op (.nil 2)⟩]) <|
        .seq (.seq (.reg [⟨(some 7), none, .op (.mv (.c (.d (.int .i64 0))) true)⟩]) <|
        .block 2 (
          .loop (
            .seq (.seq (.reg [⟨(some 20), none, .op (.mv (.t 7) false)⟩,
              ⟨(some 21), none, .op (.fa 2 (.t 1))⟩,
              ⟨(some 22), none, .op (.load false 1 (.t 21) false)⟩,
              ⟨(some 23), none, .op (.mv (.t 5) false)⟩,
              ⟨(some 24), none, .op (.ixs 1 (.t 22) (.t 23))⟩,
              ⟨(some 25), none, .op (.load false 1 (.t 24) false)⟩,
              ⟨(some 26), none, .op (.len (.t 25))⟩,
              ⟨(some 27), none, .op (.bin .lss (.t 20) (.t 26))⟩]) <|
            .cond (.t 27) (.skip) (.exit 2)) <|
            .seq (.block 3 (
              .reg [⟨(some 30), none, .op (.mv (.t 6) true)⟩,
                ⟨(some 31), none, .op (.fa 2 (.t 1))⟩,
                ⟨(some 32), none, .op (.load false 1 (.t 31) false)⟩,
                ⟨(some 33), none, .op (.mv (.t 5) false)⟩,
                ⟨(some 34), none, .op (.ixs 1 (.t 32) (.t 33))⟩,
                ⟨(some 35), none, .op (.load false 1 (.t 34) false)⟩,
                ⟨(some 36), none, .op (.mv (.t 7) false)⟩,
                ⟨(some 37), none, .op (.ixs 3 (.t 35) (.t 36))⟩,
                ⟨(some 38), none, .op (.load true 3 (.t 37) false)⟩,
                ⟨(some 39), none, .call 19 [(.t 38)] none⟩,
                ⟨(some 40), none, .op (.bslc 2 1 [.sl 10 [], .sl 1 []] [(0, 2, (.t 39))])⟩,
                ⟨(some 41), none, .op (.app 2 48 (.t 30) (.t 40))⟩,
                ⟨(some 6), none, .op (.mv (.t 41) true)⟩])) <|
            .reg [⟨(some 28), none, .op (.mv (.t 7) false)⟩,
              ⟨(some 29), none, .op (.bin .add (.t 28) (.c (.d (.int .i64 1))))⟩,
              ⟨(some 7), none, .op (.mv (.t 29) true)⟩]))) <|
        .reg [⟨(some 42), none, .op (.fa 1 (.t 4))⟩,
          ⟨(some 43), none, .op (.load false 1 (.t 42) true)⟩,
          ⟨(some 44), none, .op (.mv (.t 6) false)⟩,
          ⟨(some 45), none, .op (.bslc 1 1 [.sl 2 []] [(0, 1, (.t 44))])⟩,
          ⟨(some 46), none, .op (.app 1 24 (.t 43) (.t 45))⟩,
          ⟨(some 47), none, .op (.fa 1 (.t 4))⟩,
          ⟨none, none, .op (.store 1 (.t 47) (.t 46))⟩])) <|
      .reg [⟨(some 18), none, .op (.mv (.t 5) false)⟩,
        ⟨(some 19), none, .op (.bin .add (.t 18) (.c (.d (.int .i64 1))))⟩,
        ⟨(some 5), none, .op (.mv (.t 19) true)⟩]))) <|
  .seq (.reg [⟨(some 48), none, .op (.load true 2 (.t 4) true)⟩,
    ⟨none, none, .op (.store 2 (.t 2) (.t 48))⟩]) <|
  .ret
theorem k19 : Tryd.f19.body.bind (comp Tryd.prog [] Tryd.f19.ntmps) = some c19 := by kernel_rfl
theorem r19 : cRes Tryd.prog Tryd.f19.results.toList = some [.c 2 true 2] := by kernel_rfl

theorem cs_inst' : ∀ f : Fil, InstC' f := by
  refine Fil.ind (fun v l k ih => ?_)
  intro hin R h
  obtain ⟨_, _, _, hv, hk, hr, hf⟩ := hin
  refine CS.go0 Tryd.func19 k19 r19 (by kernel_rfl) ?_
  unfold c19
  simp (maxSteps := 10000000) -dsimp only [go_sem, simprocAttr, encF]
  refine kImp_intro (fun hl => ?_)
  simp (maxSteps := 10000000) -dsimp only [go_sem, simprocAttr]
  refine kAnd_intro (by omega) ?_
  simp (maxSteps := 10000000) -dsimp only [go_sem, simprocAttr]
  refine kAnd_intro (by omega) ?_
  simp (maxSteps := 10000000) -dsimp only [go_sem, simprocAttr]
  refine kLoop_intro (loop_rule (ι := { i : Nat // i ≤ k.length }) (fun i => ⟨Tryd.f19.ntmps, 1000, [(5, .d (.int .i64 i.1)), (4, .ptr 1004 0), (2, .ptr 1002 0), (1, .ptr 1001 0)],
    [(1004, [.d (.sl 10 (v.map encV)), .d (.sl 1 (instK (k.take i.1)))]), (1002, [.d (.sl 10 []), .d (.sl 1 [])]), (1001, [.d (.sl 10 (v.map encV)), .d (.sl 10 (l.map encV)), .d (.sl 1 (encK k))])], [(.b 1004 1, 1)]⟩) (fun i => k.length - i.1) ⟨0, by omega⟩ ?_ (fun _ => ⟨rfl, rfl⟩) ?_)
  · refine weak_mk ?_ ?_ ?_ ?_ ?_ <;> simp (maxSteps := 10000000) -dsimp only [go_sem, simprocAttr, instK, List.take_zero]
  rintro ⟨i, hi⟩
  simp (maxSteps := 10000000) -dsimp only [go_sem, simprocAttr]
  refine kImp_intro (fun hl1 => ?_)
  simp (maxSteps := 10000000) -dsimp only [go_sem, simprocAttr]
  refine kIf_intro (fun h1 => ?_) (fun h1 => ?_)
  · have hlt : i < k.length := by simpa using h1
    obtain ⟨r, hv⟩ : ∃ r, k[i]? = some r := ⟨_, List.getElem?_eq_getElem hlt⟩
    have hmr := List.mem_of_getElem? hv
    have hrl := hr r hmr
    simp (maxSteps := 10000000) -dsimp only [go_sem, simprocAttr]
    refine kLoop_intro (loop_rule (ι := { j : Nat // j ≤ r.length }) (fun j => ⟨Tryd.f19.ntmps, 1000, [(7, .d (.int .i64 j.1)), (6, .d (.sl 2 (instR (r.take j.1)))),
      (5, .d (.int .i64 i)), (4, .ptr 1004 0), (2, .ptr 1002 0), (1, .ptr 1001 0)],
      [(1004, [.d (.sl 10 (v.map encV)), .d (.sl 1 (instK (k.take i)))]), (1002, [.d (.sl 10 []), .d (.sl 1 [])]), (1001, [.d (.sl 10 (v.map encV)), .d (.sl 10 (l.map encV)), .d (.sl 1 (encK k))])], [(.t 6, 2), (.b 1004 1, 1)]⟩) (fun j => r.length - j.1) ⟨0, by omega⟩ ?_ (fun _ => ⟨rfl, rfl⟩) ?_)
    · refine weak_mk ?_ ?_ ?_ ?_ ?_ <;> simp (maxSteps := 10000000) -dsimp only [go_sem, simprocAttr, instR, List.take_zero]
    rintro ⟨j, hj⟩
    simp (maxSteps := 10000000) -dsimp only [go_sem, simprocAttr]
    refine kAnd_intro (by omega) ?_
    simp (maxSteps := 10000000) -dsimp only [go_sem, simprocAttr, getD_encK hv]
    refine kImp_intro (fun hl2 => ?_)
    simp (maxSteps := 10000000) -dsimp only [go_sem, simprocAttr]
    refine kIf_intro (fun h2 => ?_) (fun h2 => ?_)
    · have hjt : j < r.length := by simpa using h2
      obtain ⟨f, hf'⟩ : ∃ f, r[j]? = some f := ⟨_, List.getElem?_eq_getElem hjt⟩
      have hmf := List.mem_of_getElem? hf'
      have hin := hf r hmr f hmf
      obtain ⟨fv, fl, fk⟩ := f
      simp (maxSteps := 10000000) -dsimp only [go_sem, simprocAttr]
      refine kAnd_intro (by omega) ?_
      simp (maxSteps := 10000000) -dsimp only [go_sem, simprocAttr, getD_encK hv, getD_encR hf', encF]
      refine kAnd_intro (by omega) ?_
      simp (maxSteps := 10000000) -dsimp only [go_sem, simprocAttr, getD_encK hv, getD_encR hf', encF]
      refine kCS_intro (ih r hmr _ hmf hin _ ?_)
      simp (maxSteps := 10000000) -dsimp only [go_sem, simprocAttr, instF]
      refine kImp_intro (fun hl3 => ?_)
      simp (maxSteps := 10000000) -dsimp only [go_sem, simprocAttr]
      refine kAnd_intro (by rw [List.length_take] at *; omega) ?_
      simp (maxSteps := 10000000) -dsimp only [go_sem, simprocAttr]
      refine kAnd_intro (by rw [List.length_take] at *; omega) ?_
      simp (maxSteps := 10000000) -dsimp only [go_sem, simprocAttr]
      refine ⟨⟨j + 1, hjt⟩, by show _ - (j + 1) < _ - j; omega, ?_⟩
      refine weak_mk ?_ ?_ ?_ ?_ ?_ <;> simp (maxSteps := 10000000) -dsimp only [go_sem, simprocAttr]
      rw [wrap_i64 (by omega) (by omega)]
      exact ⟨rfl, by rw [instR_take hf', instF]⟩
    · have : j = r.length := by
        have : ¬ (j : Int) < r.length := by simpa using h2
        omega
      subst this
      simp (maxSteps := 10000000) -dsimp only [go_sem, simprocAttr, List.take_length]
      refine kImp_intro (fun hl4 => ?_)
      simp (maxSteps := 10000000) -dsimp only [go_sem, simprocAttr, List.take_length]
      refine kAnd_intro (by rw [List.length_take] at *; omega) ?_
      simp (maxSteps := 10000000) -dsimp only [go_sem, simprocAttr, List.take_length]
      refine kAnd_intro (by rw [List.length_take] at *; omega) ?_
      simp (maxSteps := 10000000) -dsimp only [go_sem, simprocAttr, List.take_length]
      refine ⟨⟨i + 1, hlt⟩, by show _ - (i + 1) < _ - i; omega, ?_⟩
      refine weak_mk ?_ ?_ ?_ ?_ ?_ <;> simp (maxSteps := 10000000) -dsimp only [go_sem, simprocAttr]
      · rw [instK_take hv]
      · rw [wrap_i64 (by omega) (by omega)]; rfl
  · have : i = k.length := by
      have : ¬ (i : Int) < k.length := by simpa using h1
      omega
    subst this
    simp (maxSteps := 10000000) -dsimp only [go_sem, simprocAttr, List.take_length]
    exact h

theorem getD_instR {r : List Fil} {i : Nat} {f : Fil} (h : r[i]? = some f) : (instR r).getD i [] = instF f := by rw [instR_eq]; exact getD_enc h
theorem getD_instK {k : List (List Fil)} {i : Nat} {r : List Fil} (h : k[i]? = some r) : (instK k).getD i [] = [.sl 2 (instR r)] := by rw [instK_eq]; exact getD_enc h

def SameI (f : Fil) : Prop := ∀ (R : Out → Prop), R (.ret [.d (.bool true)] [] []) → CS Tryd.prog 17 [.agg ((instF f).map .d), .agg ((instF f).map .d)] [] [] R

/-- excise/exciseref16.Same -/
def c17 : AC :=
  .seq (.reg [⟨(some 2), none, .op (.box 2 (.t 0))⟩,
    ⟨(some 3), none, .op (.box 2 (.t 1))⟩,
    ⟨(some 4), none, .op (.mv (.c (.d (.bool false))) true)⟩]) <|
  .seq (.seq (.reg [⟨(some 8), none, .op (.fa 0 (.t 2))⟩,
    ⟨(some 9), none, .op (.load false 1 (.t 8) false)⟩,
    ⟨(some 10), none, .op (.len (.t 9))⟩,
    ⟨(some 11), none, .op (.fa 0 (.t 3))⟩,
    ⟨(some 12), none, .op (.load false 1 (.t 11) false)⟩,
    ⟨(some 13), none, .op (.len (.t 12))⟩,
    ⟨(some 14), none, .op (.bin .neq (.t 10) (.t 13))⟩,
    ⟨(some 15), none, .op (.mv (.t 14) false)⟩,
    ⟨(some 16), (some (15, false)), .op (.fa 1 (.t 2))⟩,
    ⟨(some 17), (some (15, false)), .op (.load false 1 (.t 16) false)⟩,
    ⟨(some 18), (some (15, false)), .op (.len (.t 17))⟩,
    ⟨(some 19), (some (15, false)), .op (.fa 1 (.t 3))⟩,
    ⟨(some 20), (some (15, false)), .op (.load false 1 (.t 19) false)⟩,
    ⟨(some 21), (some (15, false)), .op (.len (.t 20))⟩,
    ⟨(some 22), (some (15, false)), .op (.bin .neq (.t 18) (.t 21))⟩,
    ⟨(some 23), none, .op (.pick (.t 15) (.c (.d (.bool true))) (.t 22))⟩]) <|
  .cond (.t 23) (.seq (.reg [⟨(some 4), none, .op (.mv (.c (.d (.bool false))) true)⟩]) <|
    .ret) (.skip)) <|
  .seq (.seq (.reg [⟨(some 5), none, .op (.mv (.c (.d (.int .i64 0))) true)⟩]) <|
  .block 0 (
    .loop (
      .seq (.seq (.reg [⟨(some 24), none, .op (.mv (.t 5) false)⟩,
        ⟨(some 25), none, .op (.fa 0 (.t 2))⟩,
        ⟨(some 26), none, .op (.load false 1 (.t 25) false)⟩,
        ⟨(some 27), none, .op (.len (.t 26))⟩,
        ⟨(some 28), none, .op (.bin .lss (.t 24) (.t 27))⟩]) <|
      .cond (.t 28) (.skip) (.exit 0)) <|
      .seq (.block 1 (
        .seq (.draw [⟨0, ⟨(some 31), none, .op (.fa 0 (.t 2))⟩, []⟩,
          ⟨1, ⟨(some 32), none, .op (.load false 1 (.t 31) false)⟩, [0]⟩,
          ⟨2, ⟨(some 33), none, .op (.mv (.t 5) false)⟩, []⟩,
          ⟨3, ⟨(some 34), none, .op (.ixs 10 (.t 32) (.t 33))⟩, [1, 0, 2]⟩,
          ⟨4, ⟨(some 35), none, .op (.load true 10 (.t 34) false)⟩, [3, 1, 0, 2]⟩,
          ⟨5, ⟨(some 36), none, .op (.fa 0 (.t 3))⟩, []⟩,
          ⟨6, ⟨(some 37), none, .op (.load false 1 (.t 36) false)⟩, [5]⟩,
          ⟨7, ⟨(some 38), none, .op (.mv (.t 5) false)⟩, []⟩,
          ⟨8, ⟨(some 39), none, .op (.ixs 10 (.t 37) (.t 38))⟩, [6, 5, 7]⟩,
          ⟨9, ⟨(some 40), none, .op (.load true 10 (.t 39) false)⟩, [8, 6, 5, 7]⟩,
          ⟨10, ⟨(some 41), none, .op (.eqs true [1, 0, 1, 1, 1, 1, 1, 0, 2, 1] (.t 35) (.t 40))⟩, [4, 3, 1, 0, 2, 9, 8, 6, 5, 7]⟩]) <|
        .cond (.t 41) (.seq (.reg [⟨(some 4), none, .op (.mv (.c (.d (.bool false))) true)⟩]) <|
          .ret) (.skip))) <|
      .reg [⟨(some 29), none, .op (.mv (.t 5) false)⟩,
        ⟨(some 30), none, .op (.bin .add (.t 29) (.c (.d (.int .i64 1))))⟩,
        ⟨(some 5), none, .op (.mv (.t 30) true)⟩]))) <|
  .seq (.seq (.reg [⟨(some 6), none, .op (.mv (.c (.d (.int .i64 0))) true)⟩]) <|
  .block 2 (
    .loop (
      .seq (.seq (.reg [⟨(some 42), none, .op (.mv (.t 6) false)⟩,
        ⟨(some 43), none, .op (.fa 1 (.t 2))⟩,
        ⟨(some 44), none, .op (.load false 1 (.t 43) false)⟩,
        ⟨(some 45), none, .op (.len (.t 44))⟩,
        ⟨(some 46), none, .op (.bin .lss (.t 42) (.t 45))⟩]) <|
      .cond (.t 46) (.skip) (.exit 2)) <|
      .seq (.block 3 (
        .seq (.seq (.draw [⟨0, ⟨(some 49), none, .op (.fa 1 (.t 2))⟩, []⟩,
          ⟨1, ⟨(some 50), none, .op (.load false 1 (.t 49) false)⟩, [0]⟩,
          ⟨2, ⟨(some 51), none, .op (.mv (.t 6) false)⟩, []⟩,
          ⟨3, ⟨(some 52), none, .op (.ixs 1 (.t 50) (.t 51))⟩, [1, 0, 2]⟩,
          ⟨4, ⟨(some 53), none, .op (.load false 1 (.t 52) false)⟩, [3, 1, 0, 2]⟩,
          ⟨5, ⟨(some 54), none, .op (.len (.t 53))⟩, [4, 3, 1, 0, 2]⟩,
          ⟨6, ⟨(some 55), none, .op (.fa 1 (.t 3))⟩, []⟩,
          ⟨7, ⟨(some 56), none, .op (.load false 1 (.t 55) false)⟩, [6]⟩,
          ⟨8, ⟨(some 57), none, .op (.mv (.t 6) false)⟩, []⟩,
          ⟨9, ⟨(some 58), none, .op (.ixs 1 (.t 56) (.t 57))⟩, [7, 6, 8]⟩,
          ⟨10, ⟨(some 59), none, .op (.load false 1 (.t 58) false)⟩, [9, 7, 6, 8]⟩,
          ⟨11, ⟨(some 60), none, .op (.len (.t 59))⟩, [10, 9, 7, 6, 8]⟩,
          ⟨12, ⟨(some 61), none, .op (.bin .neq (.t 54) (.t 60))⟩, [5, 4, 3, 1, 0, 2, 11, 10, 9, 7, 6, 8]⟩]) <|
        .cond (.t 61) (.seq (.reg [⟨(some 4), none, .op (.mv (.c (.d (.bool false))) true)⟩]) <|
          .ret) (.skip)) <|
        .seq (.reg [⟨(some 7), none, .op (.mv (.c (.d (.int .i64 0))) true)⟩]) <|
        .block 4 (
          .loop (
            .seq (.seq (.reg [⟨(some 62), none, .op (.mv (.t 7) false)⟩,
              ⟨(some 63), none, .op (.fa 1 (.t 2))⟩,
              ⟨(some 64), none, .op (.load false 1 (.t 63) false)⟩,
              ⟨(some 65), none, .op (.mv (.t 6) false)⟩,
              ⟨(some 66), none, .op (.ixs 1 (.t 64) (.t 65))⟩,
              ⟨(some 67), none, .op (.load false 1 (.t 66) false)⟩,
              ⟨(some 68), none, .op (.len (.t 67))⟩,
              ⟨(some 69), none, .op (.bin .lss (.t 62) (.t 68))⟩]) <|
            .cond (.t 69) (.skip) (.exit 4)) <|
            .seq (.block 5 (
              .seq (.draw [⟨0, ⟨(some 72), none, .op (.fa 1 (.t 2))⟩, []⟩,
                ⟨1, ⟨(some 73), none, .op (.load false 1 (.t 72) false)⟩, [0]⟩,
                ⟨2, ⟨(some 74), none, .op (.mv (.t 6) false)⟩, []⟩,
                ⟨3, ⟨(some 75), none, .op (.ixs 1 (.t 73) (.t 74))⟩, [1, 0, 2]⟩,
                ⟨4, ⟨(some 76), none, .op (.load false 1 (.t 75) false)⟩, [3, 1, 0, 2]⟩,
                ⟨5, ⟨(some 77), none, .op (.mv (.t 7) false)⟩, []⟩,
                ⟨6, ⟨(some 78), none, .op (.ixs 2 (.t 76) (.t 77))⟩, [4, 3, 1, 0, 2, 5]⟩,
                ⟨7, ⟨(some 79), none, .op (.load true 2 (.t 78) false)⟩, [6, 4, 3, 1, 0, 2, 5]⟩,
                ⟨8, ⟨(some 80), none, .op (.fa 1 (.t 3))⟩, []⟩,
                ⟨9, ⟨(some 81), none, .op (.load false 1 (.t 80) false)⟩, [8]⟩,
                ⟨10, ⟨(some 82), none, .op (.mv (.t 6) false)⟩, []⟩,
                ⟨11, ⟨(some 83), none, .op (.ixs 1 (.t 81) (.t 82))⟩, [9, 8, 10]⟩,
                ⟨12, ⟨(some 84), none, .op (.load false 1 (.t 83) false)⟩, [11, 9, 8, 10]⟩,
                ⟨13, ⟨(some 85), none, .op (.mv (.t 7) false)⟩, []⟩,
                ⟨14, ⟨(some 86), none, .op (.ixs 2 (.t 84) (.t 85))⟩, [12, 11, 9, 8, 10, 13]⟩,
                ⟨15, ⟨(some 87), none, .op (.load true 2 (.t 86) false)⟩, [14, 12, 11, 9, 8, 10, 13]⟩,
                ⟨16, ⟨(some 88), none, .call 17 [(.t 79), (.t 87)] none⟩, [7, 6, 4, 3, 1, 0, 2, 5, 15, 14, 12, 11, 9, 8, 10, 13]⟩,
                ⟨17, ⟨(some 89), none, .op (.un .not (.t 88))⟩, [16, 7, 6, 4, 3, 1, 0, 2, 5, 15, 14, 12, 11, 9, 8, 10, 13]⟩]) <|
              .cond (.t 89) (.seq (.reg [⟨(some 4), none, .op (.mv (.c (.d (.bool false))) true)⟩]) <|
                .ret) (.skip))) <|
            .reg [⟨(some 70), none, .op (.mv (.t 7) false)⟩,
              ⟨(some 71), none, .op (.bin .add (.t 70) (.c (.d (.int .i64 1))))⟩,
              ⟨(some 7), none, .op (.mv (.t 71) true)⟩])))) <|
      .reg [⟨(some 47), none, .op (.mv (.t 6) false)⟩,
        ⟨(some 48), none, .op (.bin .add (.t 47) (.c (.d (.int .i64 1))))⟩,
        ⟨(some 6), none, .op (.mv (.t 48) true)⟩]))) <|
  .seq (.reg [⟨(some 4), none, .op (.mv (.c (.d (.bool true))) true)⟩]) <|
  .ret
theorem k17 : Tryd.f17.body.bind (comp Tryd.prog [] Tryd.f17.ntmps) = some c17 := by kernel_rfl
theorem r17 : cRes Tryd.prog Tryd.f17.results.toList = some [.t 4] := by kernel_rfl

theorem cs_sameInst : ∀ f : Fil, SameI f := by
  refine Fil.ind (fun v l k ih => ?_)
  intro R h
  refine CS.go Tryd.func17 k17 r17 (by kernel_rfl) ?_
  unfold c17
  simp (maxSteps := 10000000) -dsimp only [go_sem, simprocAttr, instF]
  refine kImp_intro (fun hl1 => ?_)
  simp (maxSteps := 10000000) -dsimp only [go_sem, simprocAttr]
  refine kImp_intro (fun _ => ?_)
  simp (maxSteps := 10000000) -dsimp only [go_sem, simprocAttr]
  refine kImp_intro (fun hl2 => ?_)
  simp (maxSteps := 10000000) -dsimp only [go_sem, simprocAttr]
  refine kImp_intro (fun _ => ?_)
  simp (maxSteps := 10000000) -dsimp only [go_sem, simprocAttr]
  refine kLoop_intro (loop_rule (ι := { i : Nat // i ≤ v.length }) (fun i => ⟨Tryd.f17.ntmps, 1000, [(5, .d (.int .i64 i.1)), (3, .ptr 1003 0), (2, .ptr 1002 0)],
    [(1003, [.d (.sl 10 (v.map encV)), .d (.sl 1 (instK k))]), (1002, [.d (.sl 10 (v.map encV)), .d (.sl 1 (instK k))])], []⟩) (fun i => v.length - i.1) ⟨0, by omega⟩ ?_ (fun _ => ⟨rfl, rfl⟩) ?_)
  · refine weak_mk ?_ ?_ ?_ ?_ ?_ <;> simp (maxSteps := 10000000) -dsimp only [go_sem, simprocAttr]
  · rintro ⟨i, hi⟩
    simp (maxSteps := 10000000) -dsimp only [go_sem, simprocAttr]
    refine kImp_intro (fun _ => ?_)
    simp (maxSteps := 10000000) -dsimp only [go_sem, simprocAttr]
    refine kIf_intro (fun h1 => ?_) (fun h1 => ?_)
    · have hlt : i < v.length := by simpa using h1
      obtain ⟨w, hw⟩ : ∃ w, v[i]? = some w := ⟨_, List.getElem?_eq_getElem hlt⟩
      simp (maxSteps := 10000000) -dsimp only [go_sem, simprocAttr]
      refine kAnd_intro (by omega) ?_
      simp (maxSteps := 10000000) -dsimp only [go_sem, simprocAttr, getD_enc hw, encV]
      refine kAnd_intro (by omega) ?_
      simp (maxSteps := 10000000) -dsimp only [go_sem, simprocAttr, getD_enc hw, encV]
      refine ⟨⟨i + 1, hlt⟩, by show _ - (i + 1) < _ - i; omega, ?_⟩
      refine weak_mk ?_ ?_ ?_ ?_ ?_ <;> simp (maxSteps := 10000000) -dsimp only [go_sem, simprocAttr]
      rw [wrap_i64 (by omega) (by omega)]
      rfl
    · have : i = v.length := by
        have : ¬ (i : Int) < v.length := by simpa using h1
        omega
      subst this
      simp (maxSteps := 10000000) -dsimp only [go_sem, simprocAttr]
      refine kLoop_intro (loop_rule (ι := { i : Nat // i ≤ k.length }) (fun i => ⟨Tryd.f17.ntmps, 1000, [(6, .d (.int .i64 i.1)), (3, .ptr 1003 0), (2, .ptr 1002 0)],
        [(1003, [.d (.sl 10 (v.map encV)), .d (.sl 1 (instK k))]), (1002, [.d (.sl 10 (v.map encV)), .d (.sl 1 (instK k))])], []⟩) (fun i => k.length - i.1) ⟨0, by omega⟩ ?_ (fun _ => ⟨rfl, rfl⟩) ?_)
      · refine weak_mk ?_ ?_ ?_ ?_ ?_ <;> simp (maxSteps := 10000000) -dsimp only [go_sem, simprocAttr]
      rintro ⟨i, hi⟩
      simp (maxSteps := 10000000) -dsimp only [go_sem, simprocAttr]
      refine kImp_intro (fun _ => ?_)
      simp (maxSteps := 10000000) -dsimp only [go_sem, simprocAttr]
      refine kIf_intro (fun h2 => ?_) (fun h2 => ?_)
      · have hlt : i < k.length := by simpa using h2
        obtain ⟨r, hr⟩ : ∃ r, k[i]? = some r := ⟨_, List.getElem?_eq_getElem hlt⟩
        have hmr := List.mem_of_getElem? hr
        simp (maxSteps := 10000000) -dsimp only [go_sem, simprocAttr]
        refine kAnd_intro (by omega) ?_
        simp (maxSteps := 10000000) -dsimp only [go_sem, simprocAttr, getD_instK hr]
        refine kAnd_intro (by omega) ?_
        simp (maxSteps := 10000000) -dsimp only [go_sem, simprocAttr, getD_instK hr]
        refine kLoop_intro (loop_rule (ι := { j : Nat // j ≤ r.length }) (fun j => ⟨Tryd.f17.ntmps, 1000, [(7, .d (.int .i64 j.1)), (6, .d (.int .i64 i)), (3, .ptr 1003 0), (2, .ptr 1002 0)],
          [(1003, [.d (.sl 10 (v.map encV)), .d (.sl 1 (instK k))]), (1002, [.d (.sl 10 (v.map encV)), .d (.sl 1 (instK k))])], []⟩) (fun j => r.length - j.1) ⟨0, by omega⟩ ?_ (fun _ => ⟨rfl, rfl⟩) ?_)
        · refine weak_mk ?_ ?_ ?_ ?_ ?_ <;> simp (maxSteps := 10000000) -dsimp only [go_sem, simprocAttr]
        rintro ⟨j, hj⟩
        simp (maxSteps := 10000000) -dsimp only [go_sem, simprocAttr]
        refine kAnd_intro (by omega) ?_
        simp (maxSteps := 10000000) -dsimp only [go_sem, simprocAttr, getD_instK hr]
        refine kImp_intro (fun _ => ?_)
        simp (maxSteps := 10000000) -dsimp only [go_sem, simprocAttr]
        refine kIf_intro (fun h3 => ?_) (fun h3 => ?_)
        · have hjt : j < r.length := by simpa using h3
          obtain ⟨f, hf⟩ : ∃ f, r[j]? = some f := ⟨_, List.getElem?_eq_getElem hjt⟩
          have hmf := List.mem_of_getElem? hf
          obtain ⟨fv, fl, fk⟩ := f
          simp (maxSteps := 10000000) -dsimp only [go_sem, simprocAttr]
          refine kAnd_intro (by omega) ?_
          simp (maxSteps := 10000000) -dsimp only [go_sem, simprocAttr, getD_instK hr, getD_instR hf, instF]
          refine kAnd_intro (by omega) ?_
          simp (maxSteps := 10000000) -dsimp only [go_sem, simprocAttr, getD_instK hr, getD_instR hf, instF]
          refine kAnd_intro (by omega) ?_
          simp (maxSteps := 10000000) -dsimp only [go_sem, simprocAttr, getD_instK hr, getD_instR hf, instF]
          refine kAnd_intro (by omega) ?_
          simp (maxSteps := 10000000) -dsimp only [go_sem, simprocAttr, getD_instK hr, getD_instR hf, instF]
          refine kDC_intro (.d (.bool true)) (ih r hmr _ hmf (fun o => o = _) rfl) (fun _ => by simp (maxSteps := 10000000) -dsimp only [go_sem, simprocAttr]) (fun _ => by simp (maxSteps := 10000000) -dsimp only [go_sem, simprocAttr]) ⟨rfl, by simp (maxSteps := 10000000) -dsimp only [go_sem, simprocAttr]⟩ ?_
          simp (maxSteps := 10000000) -dsimp only [go_sem, simprocAttr]
          refine ⟨⟨j + 1, hjt⟩, by show _ - (j + 1) < _ - j; omega, ?_⟩
          refine weak_mk ?_ ?_ ?_ ?_ ?_ <;> simp (maxSteps := 10000000) -dsimp only [go_sem, simprocAttr]
          rw [wrap_i64 (by omega) (by omega)]
          rfl
        · have : j = r.length := by
            have : ¬ (j : Int) < r.length := by simpa using h3
            omega
          subst this
          simp (maxSteps := 10000000) -dsimp only [go_sem, simprocAttr]
          refine ⟨⟨i + 1, hlt⟩, by show _ - (i + 1) < _ - i; omega, ?_⟩
          refine weak_mk ?_ ?_ ?_ ?_ ?_ <;> simp (maxSteps := 10000000) -dsimp only [go_sem, simprocAttr]
          rw [wrap_i64 (by omega) (by omega)]
          rfl
      · simp (maxSteps := 10000000) -dsimp only [go_sem, simprocAttr]
        exact h

end Go.Vx

/- SHA-256 by the document: words. -/
namespace Go.Vx
set_option linter.unusedVariables false
set_option linter.unusedSimpArgs false
open Go Go.Proofs
set_option linter.unusedSimpArgs false
set_option linter.unusedVariables false
set_option maxRecDepth 10000
set_option maxHeartbeats 4000000

/-- excise/exciseref24.turn -/
def c60 : AC :=
  .seq (.reg [⟨(some 4), none, .op (.mv (.c (.d (.int .u32 0))) true)⟩]) <|
  .seq (.draw [⟨0, ⟨(some 5), none, .op (.mv (.t 0) false)⟩, []⟩,
    ⟨1, ⟨(some 6), none, .op (.mv (.t 1) false)⟩, []⟩,
    ⟨2, ⟨(some 7), none, .op (.bin .shr (.t 5) (.t 6))⟩, [0, 1]⟩,
    ⟨3, ⟨(some 8), none, .op (.mv (.t 0) false)⟩, []⟩,
    ⟨4, ⟨(some 9), none, .op (.mv (.t 1) false)⟩, []⟩,
    ⟨5, ⟨(some 10), none, .op (.bin .sub (.c (.d (.int .i64 32))) (.t 9))⟩, [4]⟩,
    ⟨6, ⟨(some 11), none, .op (.bin .shl (.t 8) (.t 10))⟩, [3, 5, 4]⟩,
    ⟨7, ⟨(some 12), none, .op (.bin .or (.t 7) (.t 11))⟩, [2, 0, 1, 6, 3, 5, 4]⟩,
    ⟨8, ⟨(some 4), none, .op (.mv (.t 12) true)⟩, [7, 2, 0, 1, 6, 3, 5, 4]⟩]) <|
  .ret
theorem k60 : Tryd.f60.body.bind (comp Tryd.prog [] Tryd.f60.ntmps) = some c60 := by kernel_rfl
theorem r60 : cRes Tryd.prog Tryd.f60.results.toList = some [.t 4] := by kernel_rfl

theorem cs_turn' {x n : Int} (hn : 0 ≤ n ∧ n ≤ 32) {R : Out → Prop} (h : R (.ret [.d (.int .u32 (turnR x n))] [] [])) :
    CS Tryd.prog 60 [.d (.int .u32 x), .d (.int .i64 n)] [] [] R := by
  refine CS.go Tryd.func60 k60 r60 (by kernel_rfl) ?_
  unfold c60
  simp (maxSteps := 10000000) -dsimp only [go_sem, simprocAttr]
  refine kAnd_intro (by omega) ?_
  simp (maxSteps := 10000000) -dsimp only [go_sem, simprocAttr]
  have e : IntKind.i64.wrap (32 - n) = 32 - n := wrap_i64 (by omega) (by omega)
  simp (maxSteps := 10000000) -dsimp only [go_sem, simprocAttr, e]
  refine kAnd_intro (by omega) ?_
  simp (maxSteps := 10000000) -dsimp only [go_sem, simprocAttr, e]
  exact h

/-- A slice of words. -/
def wsl (l : List Int) : List (List D) := l.map fun x => [.int .u32 x]
theorem wsl_len {l : List Int} : (wsl l).length = l.length := List.length_map _
theorem wsl_get {l : List Int} {i : Nat} (h : i < l.length) : (wsl l).getD i [] = [.int .u32 (l.getD i 0)] := by
  rw [wsl, List.getD_eq_getElem?_getD, List.getElem?_map, List.getElem?_eq_getElem h, List.getD_eq_getElem?_getD, List.getElem?_eq_getElem h]; rfl
theorem wsl_app {a b : List Int} : wsl (a ++ b) = wsl a ++ wsl b := List.map_append
attribute [go_sem] wsl_len

/-- excise/exciseref24.constant -/
def c61 : AC :=
  .seq (.reg [⟨(some 2), none, .op (.mv (.c (.d (.int .u32 0))) true)⟩]) <|
  .seq (.reg [⟨(some 4), none, .op (.bslc 1 64 [.int .u32 0] [(0, 1, (.c (.d (.int .u32 1116352408)))), (1, 1, (.c (.d (.int .u32 1899447441)))), (2, 1, (.c (.d (.int .u32 3049323471)))), (3, 1, (.c (.d (.int .u32 3921009573)))), (4, 1, (.c (.d (.int .u32 961987163)))), (5, 1, (.c (.d (.int .u32 1508970993)))), (6, 1, (.c (.d (.int .u32 2453635748)))), (7, 1, (.c (.d (.int .u32 2870763221)))), (8, 1, (.c (.d (.int .u32 3624381080)))), (9, 1, (.c (.d (.int .u32 310598401)))), (10, 1, (.c (.d (.int .u32 607225278)))), (11, 1, (.c (.d (.int .u32 1426881987)))), (12, 1, (.c (.d (.int .u32 1925078388)))), (13, 1, (.c (.d (.int .u32 2162078206)))), (14, 1, (.c (.d (.int .u32 2614888103)))), (15, 1, (.c (.d (.int .u32 3248222580)))), (16, 1, (.c (.d (.int .u32 3835390401)))), (17, 1, (.c (.d (.int .u32 4022224774)))), (18, 1, (.c (.d (.int .u32 264347078)))), (19, 1, (.c (.d (.int .u32 604807628)))), (20, 1, (.c (.d (.int .u32 770255983)))), (21, 1, (.c (.d (.int .u32 1249150122)))), (22, 1, (.c (.d (.int .u32 1555081692)))), (23, 1, (.c (.d (.int .u32 1996064986)))), (24, 1, (.c (.d (.int .u32 2554220882)))), (25, 1, (.c (.d (.int .u32 2821834349)))), (26, 1, (.c (.d (.int .u32 2952996808)))), (27, 1, (.c (.d (.int .u32 3210313671)))), (28, 1, (.c (.d (.int .u32 3336571891)))), (29, 1, (.c (.d (.int .u32 3584528711)))), (30, 1, (.c (.d (.int .u32 113926993)))), (31, 1, (.c (.d (.int .u32 338241895)))), (32, 1, (.c (.d (.int .u32 666307205)))), (33, 1, (.c (.d (.int .u32 773529912)))), (34, 1, (.c (.d (.int .u32 1294757372)))), (35, 1, (.c (.d (.int .u32 1396182291)))), (36, 1, (.c (.d (.int .u32 1695183700)))), (37, 1, (.c (.d (.int .u32 1986661051)))), (38, 1, (.c (.d (.int .u32 2177026350)))), (39, 1, (.c (.d (.int .u32 2456956037)))), (40, 1, (.c (.d (.int .u32 2730485921)))), (41, 1, (.c (.d (.int .u32 2820302411)))), (42, 1, (.c (.d (.int .u32 3259730800)))), (43, 1, (.c (.d (.int .u32 3345764771)))), (44, 1, (.c (.d (.int .u32 3516065817)))), (45, 1, (.c (.d (.int .u32 3600352804)))), (46, 1, (.c (.d (.int .u32 4094571909)))), (47, 1, (.c (.d (.int .u32 275423344)))), (48, 1, (.c (.d (.int .u32 430227734)))), (49, 1, (.c (.d (.int .u32 506948616)))), (50, 1, (.c (.d (.int .u32 659060556)))), (51, 1, (.c (.d (.int .u32 883997877)))), (52, 1, (.c (.d (.int .u32 958139571)))), (53, 1, (.c (.d (.int .u32 1322822218)))), (54, 1, (.c (.d (.int .u32 1537002063)))), (55, 1, (.c (.d (.int .u32 1747873779)))), (56, 1, (.c (.d (.int .u32 1955562222)))), (57, 1, (.c (.d (.int .u32 2024104815)))), (58, 1, (.c (.d (.int .u32 2227730452)))), (59, 1, (.c (.d (.int .u32 2361852424)))), (60, 1, (.c (.d (.int .u32 2428436474)))), (61, 1, (.c (.d (.int .u32 2756734187)))), (62, 1, (.c (.d (.int .u32 3204031479)))), (63, 1, (.c (.d (.int .u32 3329325298))))])⟩,
    ⟨(some 3), none, .op (.mv (.t 4) true)⟩]) <|
  .seq (.reg [⟨(some 5), none, .op (.mv (.t 3) false)⟩,
    ⟨(some 6), none, .op (.mv (.t 0) false)⟩,
    ⟨(some 7), none, .op (.ixs 1 (.t 5) (.t 6))⟩,
    ⟨(some 8), none, .op (.load false 1 (.t 7) false)⟩,
    ⟨(some 2), none, .op (.mv (.t 8) true)⟩]) <|
  .ret
theorem k61 : Tryd.f61.body.bind (comp Tryd.prog [] Tryd.f61.ntmps) = some c61 := by kernel_rfl
theorem r61 : cRes Tryd.prog Tryd.f61.results.toList = some [.t 2] := by kernel_rfl

theorem cs_constant' {t : Nat} (ht : t < 64) {R : Out → Prop} (h : R (.ret [.d (.int .u32 (kTab.getD t 0))] [] [])) :
    CS Tryd.prog 61 [.d (.int .i64 t)] [] [] R := by
  refine CS.go0 Tryd.func61 k61 r61 (by kernel_rfl) ?_
  unfold c61
  simp (maxSteps := 10000000) -dsimp only [go_sem, simprocAttr]
  refine kAnd_intro (by omega) ?_
  have e := wsl_get (l := kTab) (i := t) ht
  unfold wsl kTab at e
  simp only [List.map_cons, List.map_nil] at e
  simp (maxSteps := 10000000) -dsimp only [go_sem, simprocAttr, e]
  exact h

/-- Words behind have no say in those before. -/
theorem words1_keep {B : List Int} {i : Nat} : ∀ {m n : Nat}, n ≤ m → i < n + 16 → (words1 B m)[i]? = (words1 B n)[i]? := by
  intro m
  induction m with
  | zero => intro n hn _; rw [Nat.le_zero.1 hn]
  | succ m ih =>
    intro n hn hi
    by_cases e : n = m + 1
    · rw [e]
    · rw [words1_succ, List.getElem?_set_ne (by omega)]
      exact ih (by omega) hi
theorem words1_at {B : List Int} {t : Nat} (h1 : 16 ≤ t) (h2 : t < 64) : (words1 B 48)[t]? = some (wNext (words1 B 48) t) := by
  rw [words1_keep (n := t - 16 + 1) (by omega) (by omega), words1_succ, show t - 16 + 16 = t by omega]
  rw [List.getElem?_set_self (by rw [words1_len]; omega)]
  congr 1
  have e : ∀ j, j < t → (words1 B (t - 16)).getD j 0 = (words1 B 48).getD j 0 := by
    intro j hj
    rw [List.getD_eq_getElem?_getD, List.getD_eq_getElem?_getD, words1_keep (m := 48) (n := t - 16) (by omega) (by omega)]
  unfold wNext
  rw [e (t - 2) (by omega), e (t - 7) (by omega), e (t - 15) (by omega), e (t - 16) (by omega)]
theorem words0_at {B : List Int} {t : Nat} : ∀ {n : Nat}, t < n → n ≤ 64 → (words0 B n)[t]? = some (wA B t) := by
  intro n
  induction n with
  | zero => intro h; omega
  | succ n ih =>
    intro h hn
    rw [words0_succ]
    by_cases e : t = n
    · subst e
      rw [List.getElem?_set_self (by rw [words0_len]; omega)]
    · rw [List.getElem?_set_ne (by omega)]
      exact ih (by omega) (by omega)
theorem words1_low {B : List Int} {t : Nat} (h : t < 16) : (words1 B 48)[t]? = some (wA B t) := by
  rw [words1_keep (n := 0) (by omega) (by omega), words1_zero]
  exact words0_at h (by omega)

/-- excise/exciseref24.words -/
def c59 : AC :=
  .seq (.reg [⟨(some 1), none, .op (.box 64 (.t 0))⟩,
    ⟨(some 2), none, .op (.nil 1)⟩]) <|
  .seq (.reg [⟨(some 3), none, .op (.nil 1)⟩]) <|
  .seq (.seq (.reg [⟨(some 4), none, .op (.mv (.c (.d (.int .i64 0))) true)⟩]) <|
  .block 0 (
    .loop (
      .seq (.seq (.reg [⟨(some 7), none, .op (.mv (.t 4) false)⟩,
        ⟨(some 8), none, .op (.bin .lss (.t 7) (.c (.d (.int .i64 64))))⟩]) <|
      .cond (.t 8) (.skip) (.exit 0)) <|
      .seq (.block 1 (
        .seq (.seq (.reg [⟨(some 11), none, .op (.mv (.t 4) false)⟩,
          ⟨(some 12), none, .op (.bin .lss (.t 11) (.c (.d (.int .i64 16))))⟩]) <|
        .cond (.t 12) (.seq (.drawo [⟨0, ⟨(some 13), none, .op (.mv (.t 3) true)⟩, []⟩,
            ⟨1, ⟨(some 14), none, .op (.mv (.t 4) false)⟩, []⟩,
            ⟨2, ⟨(some 15), none, .op (.bin .mul (.c (.d (.int .i64 4))) (.t 14))⟩, [1]⟩,
            ⟨3, ⟨(some 16), none, .op (.ixa 64 1 (.t 1) (.t 15))⟩, [2, 1]⟩,
            ⟨4, ⟨(some 17), none, .op (.load false 1 (.t 16) false)⟩, [3, 2, 1]⟩,
            ⟨5, ⟨(some 18), none, .op (.cvi .u32 (.t 17))⟩, [4, 3, 2, 1]⟩,
            ⟨6, ⟨(some 19), none, .op (.bin .shl (.t 18) (.c (.d (.int .u64 24))))⟩, [5, 4, 3, 2, 1]⟩,
            ⟨7, ⟨(some 20), none, .op (.mv (.t 4) false)⟩, []⟩,
            ⟨8, ⟨(some 21), none, .op (.bin .mul (.c (.d (.int .i64 4))) (.t 20))⟩, [7]⟩,
            ⟨9, ⟨(some 22), none, .op (.bin .add (.t 21) (.c (.d (.int .i64 1))))⟩, [8, 7]⟩,
            ⟨10, ⟨(some 23), none, .op (.ixa 64 1 (.t 1) (.t 22))⟩, [9, 8, 7]⟩,
            ⟨11, ⟨(some 24), none, .op (.load false 1 (.t 23) false)⟩, [10, 9, 8, 7]⟩,
            ⟨12, ⟨(some 25), none, .op (.cvi .u32 (.t 24))⟩, [11, 10, 9, 8, 7]⟩,
            ⟨13, ⟨(some 26), none, .op (.bin .shl (.t 25) (.c (.d (.int .u64 16))))⟩, [12, 11, 10, 9, 8, 7]⟩,
            ⟨14, ⟨(some 27), none, .op (.bin .or (.t 19) (.t 26))⟩, [6, 5, 4, 3, 2, 1, 13, 12, 11, 10, 9, 8, 7]⟩,
            ⟨15, ⟨(some 28), none, .op (.mv (.t 4) false)⟩, []⟩,
            ⟨16, ⟨(some 29), none, .op (.bin .mul (.c (.d (.int .i64 4))) (.t 28))⟩, [15]⟩,
            ⟨17, ⟨(some 30), none, .op (.bin .add (.t 29) (.c (.d (.int .i64 2))))⟩, [16, 15]⟩,
            ⟨18, ⟨(some 31), none, .op (.ixa 64 1 (.t 1) (.t 30))⟩, [17, 16, 15]⟩,
            ⟨19, ⟨(some 32), none, .op (.load false 1 (.t 31) false)⟩, [18, 17, 16, 15]⟩,
            ⟨20, ⟨(some 33), none, .op (.cvi .u32 (.t 32))⟩, [19, 18, 17, 16, 15]⟩,
            ⟨21, ⟨(some 34), none, .op (.bin .shl (.t 33) (.c (.d (.int .u64 8))))⟩, [20, 19, 18, 17, 16, 15]⟩,
            ⟨22, ⟨(some 35), none, .op (.bin .or (.t 27) (.t 34))⟩, [14, 6, 5, 4, 3, 2, 1, 13, 12, 11, 10, 9, 8, 7, 21, 20, 19, 18, 17, 16, 15]⟩,
            ⟨23, ⟨(some 36), none, .op (.mv (.t 4) false)⟩, []⟩,
            ⟨24, ⟨(some 37), none, .op (.bin .mul (.c (.d (.int .i64 4))) (.t 36))⟩, [23]⟩,
            ⟨25, ⟨(some 38), none, .op (.bin .add (.t 37) (.c (.d (.int .i64 3))))⟩, [24, 23]⟩,
            ⟨26, ⟨(some 39), none, .op (.ixa 64 1 (.t 1) (.t 38))⟩, [25, 24, 23]⟩,
            ⟨27, ⟨(some 40), none, .op (.load false 1 (.t 39) false)⟩, [26, 25, 24, 23]⟩,
            ⟨28, ⟨(some 41), none, .op (.cvi .u32 (.t 40))⟩, [27, 26, 25, 24, 23]⟩,
            ⟨29, ⟨(some 42), none, .op (.bin .or (.t 35) (.t 41))⟩, [22, 14, 6, 5, 4, 3, 2, 1, 13, 12, 11, 10, 9, 8, 7, 21, 20, 19, 18, 17, 16, 15, 28, 27, 26, 25, 24, 23]⟩,
            ⟨30, ⟨(some 43), none, .op (.bslc 1 1 [.int .u32 0] [(0, 1, (.t 42))])⟩, [29, 22, 14, 6, 5, 4, 3, 2, 1, 13, 12, 11, 10, 9, 8, 7, 21, 20, 19, 18, 17, 16, 15, 28, 27, 26, 25, 24, 23]⟩] 3 13 [⟨(some 44), none, .op (.app 1 4 (.t 13) (.t 43))⟩,
            ⟨(some 3), none, .op (.mv (.t 44) true)⟩]) <|
          .exit 1) (.skip)) <|
        .seq (.draw [⟨0, ⟨(some 45), none, .op (.mv (.t 3) false)⟩, []⟩,
          ⟨1, ⟨(some 46), none, .op (.mv (.t 4) false)⟩, []⟩,
          ⟨2, ⟨(some 47), none, .op (.bin .sub (.t 46) (.c (.d (.int .i64 15))))⟩, [1]⟩,
          ⟨3, ⟨(some 48), none, .op (.ixs 1 (.t 45) (.t 47))⟩, [0, 2, 1]⟩,
          ⟨4, ⟨(some 49), none, .op (.load false 1 (.t 48) false)⟩, [3, 0, 2, 1]⟩,
          ⟨5, ⟨(some 50), none, .call 60 [(.t 49), (.c (.d (.int .i64 7)))] none⟩, [4, 3, 0, 2, 1]⟩,
          ⟨6, ⟨(some 51), none, .op (.mv (.t 3) false)⟩, []⟩,
          ⟨7, ⟨(some 52), none, .op (.mv (.t 4) false)⟩, []⟩,
          ⟨8, ⟨(some 53), none, .op (.bin .sub (.t 52) (.c (.d (.int .i64 15))))⟩, [7]⟩,
          ⟨9, ⟨(some 54), none, .op (.ixs 1 (.t 51) (.t 53))⟩, [6, 8, 7]⟩,
          ⟨10, ⟨(some 55), none, .op (.load false 1 (.t 54) false)⟩, [9, 6, 8, 7]⟩,
          ⟨11, ⟨(some 56), none, .call 60 [(.t 55), (.c (.d (.int .i64 18)))] none⟩, [10, 9, 6, 8, 7, 5, 4, 3, 0, 2, 1]⟩,
          ⟨12, ⟨(some 57), none, .op (.bin .xor (.t 50) (.t 56))⟩, [11, 10, 9, 6, 8, 7, 5, 4, 3, 0, 2, 1]⟩,
          ⟨13, ⟨(some 58), none, .op (.mv (.t 3) false)⟩, []⟩,
          ⟨14, ⟨(some 59), none, .op (.mv (.t 4) false)⟩, []⟩,
          ⟨15, ⟨(some 60), none, .op (.bin .sub (.t 59) (.c (.d (.int .i64 15))))⟩, [14]⟩,
          ⟨16, ⟨(some 61), none, .op (.ixs 1 (.t 58) (.t 60))⟩, [13, 15, 14]⟩,
          ⟨17, ⟨(some 62), none, .op (.load false 1 (.t 61) false)⟩, [16, 13, 15, 14]⟩,
          ⟨18, ⟨(some 63), none, .op (.bin .shr (.t 62) (.c (.d (.int .u64 3))))⟩, [17, 16, 13, 15, 14]⟩,
          ⟨19, ⟨(some 64), none, .op (.bin .xor (.t 57) (.t 63))⟩, [12, 11, 10, 9, 6, 8, 7, 5, 4, 3, 0, 2, 1, 18, 17, 16, 13, 15, 14]⟩,
          ⟨20, ⟨(some 5), none, .op (.mv (.t 64) true)⟩, [19, 12, 11, 10, 9, 6, 8, 7, 5, 4, 3, 0, 2, 1, 18, 17, 16, 13, 15, 14]⟩]) <|
        .seq (.draw [⟨0, ⟨(some 65), none, .op (.mv (.t 3) false)⟩, []⟩,
          ⟨1, ⟨(some 66), none, .op (.mv (.t 4) false)⟩, []⟩,
          ⟨2, ⟨(some 67), none, .op (.bin .sub (.t 66) (.c (.d (.int .i64 2))))⟩, [1]⟩,
          ⟨3, ⟨(some 68), none, .op (.ixs 1 (.t 65) (.t 67))⟩, [0, 2, 1]⟩,
          ⟨4, ⟨(some 69), none, .op (.load false 1 (.t 68) false)⟩, [3, 0, 2, 1]⟩,
          ⟨5, ⟨(some 70), none, .call 60 [(.t 69), (.c (.d (.int .i64 17)))] none⟩, [4, 3, 0, 2, 1]⟩,
          ⟨6, ⟨(some 71), none, .op (.mv (.t 3) false)⟩, []⟩,
          ⟨7, ⟨(some 72), none, .op (.mv (.t 4) false)⟩, []⟩,
          ⟨8, ⟨(some 73), none, .op (.bin .sub (.t 72) (.c (.d (.int .i64 2))))⟩, [7]⟩,
          ⟨9, ⟨(some 74), none, .op (.ixs 1 (.t 71) (.t 73))⟩, [6, 8, 7]⟩,
          ⟨10, ⟨(some 75), none, .op (.load false 1 (.t 74) false)⟩, [9, 6, 8, 7]⟩,
          ⟨11, ⟨(some 76), none, .call 60 [(.t 75), (.c (.d (.int .i64 19)))] none⟩, [10, 9, 6, 8, 7, 5, 4, 3, 0, 2, 1]⟩,
          ⟨12, ⟨(some 77), none, .op (.bin .xor (.t 70) (.t 76))⟩, [11, 10, 9, 6, 8, 7, 5, 4, 3, 0, 2, 1]⟩,
          ⟨13, ⟨(some 78), none, .op (.mv (.t 3) false)⟩, []⟩,
          ⟨14, ⟨(some 79), none, .op (.mv (.t 4) false)⟩, []⟩,
          ⟨15, ⟨(some 80), none, .op (.bin .sub (.t 79) (.c (.d (.int .i64 2))))⟩, [14]⟩,
          ⟨16, ⟨(some 81), none, .op (.ixs 1 (.t 78) (.t 80))⟩, [13, 15, 14]⟩,
          ⟨17, ⟨(some 82), none, .op (.load false 1 (.t 81) false)⟩, [16, 13, 15, 14]⟩,
          ⟨18, ⟨(some 83), none, .op (.bin .shr (.t 82) (.c (.d (.int .u64 10))))⟩, [17, 16, 13, 15, 14]⟩,
          ⟨19, ⟨(some 84), none, .op (.bin .xor (.t 77) (.t 83))⟩, [12, 11, 10, 9, 6, 8, 7, 5, 4, 3, 0, 2, 1, 18, 17, 16, 13, 15, 14]⟩,
          ⟨20, ⟨(some 6), none, .op (.mv (.t 84) true)⟩, [19, 12, 11, 10, 9, 6, 8, 7, 5, 4, 3, 0, 2, 1, 18, 17, 16, 13, 15, 14]⟩]) <|
        .drawo [⟨0, ⟨(some 85), none, .op (.mv (.t 3) true)⟩, []⟩,
          ⟨1, ⟨(some 86), none, .op (.mv (.t 6) false)⟩, []⟩,
          ⟨2, ⟨(some 87), none, .op (.mv (.t 3) false)⟩, []⟩,
          ⟨3, ⟨(some 88), none, .op (.mv (.t 4) false)⟩, []⟩,
          ⟨4, ⟨(some 89), none, .op (.bin .sub (.t 88) (.c (.d (.int .i64 7))))⟩, [3]⟩,
          ⟨5, ⟨(some 90), none, .op (.ixs 1 (.t 87) (.t 89))⟩, [2, 4, 3]⟩,
          ⟨6, ⟨(some 91), none, .op (.load false 1 (.t 90) false)⟩, [5, 2, 4, 3]⟩,
          ⟨7, ⟨(some 92), none, .op (.bin .add (.t 86) (.t 91))⟩, [1, 6, 5, 2, 4, 3]⟩,
          ⟨8, ⟨(some 93), none, .op (.mv (.t 5) false)⟩, []⟩,
          ⟨9, ⟨(some 94), none, .op (.bin .add (.t 92) (.t 93))⟩, [7, 1, 6, 5, 2, 4, 3, 8]⟩,
          ⟨10, ⟨(some 95), none, .op (.mv (.t 3) false)⟩, []⟩,
          ⟨11, ⟨(some 96), none, .op (.mv (.t 4) false)⟩, []⟩,
          ⟨12, ⟨(some 97), none, .op (.bin .sub (.t 96) (.c (.d (.int .i64 16))))⟩, [11]⟩,
          ⟨13, ⟨(some 98), none, .op (.ixs 1 (.t 95) (.t 97))⟩, [10, 12, 11]⟩,
          ⟨14, ⟨(some 99), none, .op (.load false 1 (.t 98) false)⟩, [13, 10, 12, 11]⟩,
          ⟨15, ⟨(some 100), none, .op (.bin .add (.t 94) (.t 99))⟩, [9, 7, 1, 6, 5, 2, 4, 3, 8, 14, 13, 10, 12, 11]⟩,
          ⟨16, ⟨(some 101), none, .op (.bslc 1 1 [.int .u32 0] [(0, 1, (.t 100))])⟩, [15, 9, 7, 1, 6, 5, 2, 4, 3, 8, 14, 13, 10, 12, 11]⟩] 3 85 [⟨(some 102), none, .op (.app 1 4 (.t 85) (.t 101))⟩,
          ⟨(some 3), none, .op (.mv (.t 102) true)⟩])) <|
      .reg [⟨(some 9), none, .op (.mv (.t 4) false)⟩,
        ⟨(some 10), none, .op (.bin .add (.t 9) (.c (.d (.int .i64 1))))⟩,
        ⟨(some 4), none, .op (.mv (.t 10) true)⟩]))) <|
  .seq (.reg [⟨(some 103), none, .op (.mv (.t 3) false)⟩,
    ⟨(some 2), none, .op (.mv (.t 103) true)⟩]) <|
  .ret
theorem k59 : Tryd.f59.body.bind (comp Tryd.prog [] Tryd.f59.ntmps) = some c59 := by kernel_rfl
theorem r59 : cRes Tryd.prog Tryd.f59.results.toList = some [.t 2] := by kernel_rfl

theorem cs_words' {B : List Int} (hB : B.length = 64) {R : Out → Prop} (h : R (.ret [.d (.sl 1 (wsl (words1 B 48)))] [] [])) :
    CS Tryd.prog 59 [.agg (yc B)] [] [] R := by
  refine CS.go0 Tryd.func59 k59 r59 (by kernel_rfl) ?_
  unfold c59
  have tB : B.take 64 = B := List.take_of_length_le (by omega)
  simp (maxSteps := 10000000) -dsimp only [go_sem, simprocAttr, hB, tB]
  refine kLoop_intro (loop_rule (ι := { i : Nat // i ≤ 64 }) (fun i => ⟨Tryd.f59.ntmps, 1000, [(4, .d (.int .i64 i.1)), (3, .d (.sl 1 (wsl ((words1 B 48).take i.1)))), (1, .ptr 1001 0)], [(1001, yc B)], [(.t 3, 1)]⟩) (fun i => 64 - i.1) ⟨0, by omega⟩ ?_ (fun _ => ⟨rfl, rfl⟩) ?_)
  · refine weak_mk ?_ ?_ ?_ ?_ ?_ <;> simp (maxSteps := 10000000) -dsimp only [go_sem, simprocAttr, List.take_zero]
    all_goals first | rfl | exact ⟨rfl, rfl⟩ | trace_state
  rintro ⟨i, hi⟩
  simp (maxSteps := 10000000) -dsimp only [go_sem, simprocAttr]
  refine kIf_intro (fun h1 => ?_) (fun h1 => ?_)
  · have hlt : i < 64 := by simp at h1; omega
    simp (maxSteps := 10000000) -dsimp only [go_sem, simprocAttr]
    refine kIf_intro (fun h2 => ?_) (fun h2 => ?_)
    · have h16 : i < 16 := by simp at h2; omega
      have e0 : IntKind.i64.wrap (4 * (i : Int)) = ((4 * i : Nat) : Int) := by rw [wrap_i64 (by omega) (by omega)]; omega
      have e1 : IntKind.i64.wrap (((4 * i : Nat) : Int) + 1) = ((4 * i + 1 : Nat) : Int) := by rw [wrap_i64 (by omega) (by omega)]; omega
      have e2 : IntKind.i64.wrap (((4 * i : Nat) : Int) + 2) = ((4 * i + 2 : Nat) : Int) := by rw [wrap_i64 (by omega) (by omega)]; omega
      have e3 : IntKind.i64.wrap (((4 * i : Nat) : Int) + 3) = ((4 * i + 3 : Nat) : Int) := by rw [wrap_i64 (by omega) (by omega)]; omega
      have b0 := yc_get (l := B) (i := 4 * i) (by omega)
      have b1 := yc_get (l := B) (i := 4 * i + 1) (by omega)
      have b2 := yc_get (l := B) (i := 4 * i + 2) (by omega)
      have b3 := yc_get (l := B) (i := 4 * i + 3) (by omega)
      simp (maxSteps := 10000000) -dsimp only [go_sem, simprocAttr, e0, e1, e2, e3, b0, b1, b2, b3]
      refine kAnd_intro (by omega) ?_
      simp (maxSteps := 10000000) -dsimp only [go_sem, simprocAttr, e0, e1, e2, e3, b0, b1, b2, b3]
      refine kAnd_intro (by omega) ?_
      simp (maxSteps := 10000000) -dsimp only [go_sem, simprocAttr, e0, e1, e2, e3, b0, b1, b2, b3]
      refine kAnd_intro (by omega) ?_
      simp (maxSteps := 10000000) -dsimp only [go_sem, simprocAttr, e0, e1, e2, e3, b0, b1, b2, b3]
      refine kAnd_intro (by omega) ?_
      simp (maxSteps := 10000000) -dsimp only [go_sem, simprocAttr, e0, e1, e2, e3, b0, b1, b2, b3]
      have hk : ((words1 B 48).take i).length = i := by rw [List.length_take, words1_len]; omega
      refine kImp_intro (fun hl => ?_)
      simp (maxSteps := 10000000) -dsimp only [go_sem, simprocAttr, hk]
      refine kAnd_intro (by omega) ?_
      simp (maxSteps := 10000000) -dsimp only [go_sem, simprocAttr, hk]
      refine kAnd_intro (by omega) ?_
      simp (maxSteps := 10000000) -dsimp only [go_sem, simprocAttr]
      refine ⟨⟨i + 1, hlt⟩, by show _ - (i + 1) < _ - i; omega, ?_⟩
      refine weak_mk ?_ ?_ ?_ ?_ ?_ <;> simp (maxSteps := 10000000) -dsimp only [go_sem, simprocAttr]
      rw [wrap_i64 (by omega) (by omega)]
      refine ⟨rfl, ?_⟩
      rw [List.take_add_one, words1_low h16, wsl_app]
      unfold wA
      rfl
    · have h16 : 16 ≤ i := by simp at h2; omega
      have hk : ((words1 B 48).take i).length = i := by rw [List.length_take, words1_len]; omega
      have g : ∀ m, m < i → (wsl ((words1 B 48).take i)).getD m [] = [.int .u32 ((words1 B 48).getD m 0)] := by
        intro m hm
        rw [wsl_get (by omega), List.getD_eq_getElem?_getD, List.getD_eq_getElem?_getD, List.getElem?_take, if_pos hm]
      have e15 : IntKind.i64.wrap ((i : Int) - 15) = ((i - 15 : Nat) : Int) := by rw [wrap_i64 (by omega) (by omega)]; omega
      have e2 : IntKind.i64.wrap ((i : Int) - 2) = ((i - 2 : Nat) : Int) := by rw [wrap_i64 (by omega) (by omega)]; omega
      have e7 : IntKind.i64.wrap ((i : Int) - 7) = ((i - 7 : Nat) : Int) := by rw [wrap_i64 (by omega) (by omega)]; omega
      have e16 : IntKind.i64.wrap ((i : Int) - 16) = ((i - 16 : Nat) : Int) := by rw [wrap_i64 (by omega) (by omega)]; omega
      have g15 := g (i - 15) (by omega)
      have g2 := g (i - 2) (by omega)
      have g7 := g (i - 7) (by omega)
      have g16 := g (i - 16) (by omega)
      simp (maxSteps := 10000000) -dsimp only [go_sem, simprocAttr, e15, e2, e7, e16, hk, g15, g2, g7, g16]
      refine kAnd_intro (by omega) ?_
      simp (maxSteps := 10000000) -dsimp only [go_sem, simprocAttr, e15, e2, e7, e16, hk, g15, g2, g7, g16]
      refine kDC_intro (.d (.int .u32 (turnR ((words1 B 48).getD (i - 15) 0) 7))) (cs_turn' (R := fun o => o = _) (by omega) rfl) (fun _ => by simp (maxSteps := 10000000) -dsimp only [go_sem, simprocAttr]) (fun _ => by simp (maxSteps := 10000000) -dsimp only [go_sem, simprocAttr]) ⟨rfl, by simp (maxSteps := 10000000) -dsimp only [go_sem, simprocAttr]⟩ ?_
      simp (maxSteps := 10000000) -dsimp only [go_sem, simprocAttr, e15, e2, e7, e16, hk, g15, g2, g7, g16]
      refine kAnd_intro (by omega) ?_
      simp (maxSteps := 10000000) -dsimp only [go_sem, simprocAttr, e15, e2, e7, e16, hk, g15, g2, g7, g16]
      refine kDC_intro (.d (.int .u32 (turnR ((words1 B 48).getD (i - 15) 0) 18))) (cs_turn' (R := fun o => o = _) (by omega) rfl) (fun _ => by simp (maxSteps := 10000000) -dsimp only [go_sem, simprocAttr]) (fun _ => by simp (maxSteps := 10000000) -dsimp only [go_sem, simprocAttr]) ⟨rfl, by simp (maxSteps := 10000000) -dsimp only [go_sem, simprocAttr]⟩ ?_
      simp (maxSteps := 10000000) -dsimp only [go_sem, simprocAttr, e15, e2, e7, e16, hk, g15, g2, g7, g16]
      refine kAnd_intro (by omega) ?_
      simp (maxSteps := 10000000) -dsimp only [go_sem, simprocAttr, e15, e2, e7, e16, hk, g15, g2, g7, g16]
      refine kAnd_intro (by omega) ?_
      simp (maxSteps := 10000000) -dsimp only [go_sem, simprocAttr, e15, e2, e7, e16, hk, g15, g2, g7, g16]
      refine kDC_intro (.d (.int .u32 (turnR ((words1 B 48).getD (i - 2) 0) 17))) (cs_turn' (R := fun o => o = _) (by omega) rfl) (fun _ => by simp (maxSteps := 10000000) -dsimp only [go_sem, simprocAttr]) (fun _ => by simp (maxSteps := 10000000) -dsimp only [go_sem, simprocAttr]) ⟨rfl, by simp (maxSteps := 10000000) -dsimp only [go_sem, simprocAttr]⟩ ?_
      simp (maxSteps := 10000000) -dsimp only [go_sem, simprocAttr, e15, e2, e7, e16, hk, g15, g2, g7, g16]
      refine kAnd_intro (by omega) ?_
      simp (maxSteps := 10000000) -dsimp only [go_sem, simprocAttr, e15, e2, e7, e16, hk, g15, g2, g7, g16]
      refine kDC_intro (.d (.int .u32 (turnR ((words1 B 48).getD (i - 2) 0) 19))) (cs_turn' (R := fun o => o = _) (by omega) rfl) (fun _ => by simp (maxSteps := 10000000) -dsimp only [go_sem, simprocAttr]) (fun _ => by simp (maxSteps := 10000000) -dsimp only [go_sem, simprocAttr]) ⟨rfl, by simp (maxSteps := 10000000) -dsimp only [go_sem, simprocAttr]⟩ ?_
      simp (maxSteps := 10000000) -dsimp only [go_sem, simprocAttr, e15, e2, e7, e16, hk, g15, g2, g7, g16]
      refine kAnd_intro (by omega) ?_
      simp (maxSteps := 10000000) -dsimp only [go_sem, simprocAttr, e15, e2, e7, e16, hk, g15, g2, g7, g16]
      refine kAnd_intro (by omega) ?_
      simp (maxSteps := 10000000) -dsimp only [go_sem, simprocAttr, e15, e2, e7, e16, hk, g15, g2, g7, g16]
      refine kAnd_intro (by omega) ?_
      simp (maxSteps := 10000000) -dsimp only [go_sem, simprocAttr, e15, e2, e7, e16, hk, g15, g2, g7, g16]
      refine kImp_intro (fun hl => ?_)
      simp (maxSteps := 10000000) -dsimp only [go_sem, simprocAttr, hk]
      refine kAnd_intro (by omega) ?_
      simp (maxSteps := 10000000) -dsimp only [go_sem, simprocAttr, hk]
      refine kAnd_intro (by omega) ?_
      simp (maxSteps := 10000000) -dsimp only [go_sem, simprocAttr]
      refine ⟨⟨i + 1, hlt⟩, by show _ - (i + 1) < _ - i; omega, ?_⟩
      refine weak_mk ?_ ?_ ?_ ?_ ?_ <;> simp (maxSteps := 10000000) -dsimp only [go_sem, simprocAttr]
      rw [wrap_i64 (by omega) (by omega)]
      refine ⟨rfl, ?_⟩
      rw [List.take_add_one, words1_at h16 hlt, wsl_app]
      unfold wNext
      rfl
  · have : i = 64 := by simp at h1; omega
    subst this
    have : (words1 B 48).take 64 = words1 B 48 := List.take_of_length_le (by rw [words1_len]; omega)
    simp (maxSteps := 10000000) -dsimp only [go_sem, simprocAttr, this]
    exact h

end Go.Vx

/- SHA-256 by the document: a block. -/
namespace Go.Vx
set_option linter.unusedVariables false
set_option linter.unusedSimpArgs false
open Go Go.Proofs
set_option linter.unusedSimpArgs false
set_option linter.unusedVariables false
set_option maxRecDepth 10000
set_option maxHeartbeats 4000000

/-- excise/exciseref24.Block -/
def c42 : AC :=
  .seq (.reg [⟨(some 2), none, .op (.box 8 (.t 0))⟩,
    ⟨(some 3), none, .op (.box 64 (.t 1))⟩,
    ⟨(some 4), none, .op (.alloc [.d (.int .u32 0), .d (.int .u32 0), .d (.int .u32 0), .d (.int .u32 0), .d (.int .u32 0), .d (.int .u32 0), .d (.int .u32 0), .d (.int .u32 0)] [])⟩]) <|
  .seq (.reg [⟨(some 13), none, .op (.load true 64 (.t 3) false)⟩,
    ⟨(some 14), none, .call 59 [(.t 13)] none⟩,
    ⟨(some 5), none, .op (.mv (.t 14) true)⟩]) <|
  .seq (.reg [⟨(some 15), none, .op (.load true 8 (.t 2) true)⟩,
    ⟨(some 6), none, .op (.alloc [.d (.int .u32 0), .d (.int .u32 0), .d (.int .u32 0), .d (.int .u32 0), .d (.int .u32 0), .d (.int .u32 0), .d (.int .u32 0), .d (.int .u32 0)] [])⟩,
    ⟨none, none, .op (.store 8 (.t 6) (.t 15))⟩]) <|
  .seq (.seq (.reg [⟨(some 7), none, .op (.mv (.c (.d (.int .i64 0))) true)⟩]) <|
  .block 0 (
    .loop (
      .seq (.seq (.reg [⟨(some 16), none, .op (.mv (.t 7) false)⟩,
        ⟨(some 17), none, .op (.bin .lss (.t 16) (.c (.d (.int .i64 64))))⟩]) <|
      .cond (.t 17) (.skip) (.exit 0)) <|
      .seq (.block 1 (
        .seq (.draw [⟨0, ⟨(some 20), none, .op (.ixa 8 1 (.t 6) (.c (.d (.int .i64 4))))⟩, []⟩,
          ⟨1, ⟨(some 21), none, .op (.load false 1 (.t 20) false)⟩, [0]⟩,
          ⟨2, ⟨(some 22), none, .call 60 [(.t 21), (.c (.d (.int .i64 6)))] none⟩, [1, 0]⟩,
          ⟨3, ⟨(some 23), none, .op (.ixa 8 1 (.t 6) (.c (.d (.int .i64 4))))⟩, []⟩,
          ⟨4, ⟨(some 24), none, .op (.load false 1 (.t 23) false)⟩, [3]⟩,
          ⟨5, ⟨(some 25), none, .call 60 [(.t 24), (.c (.d (.int .i64 11)))] none⟩, [4, 3, 2, 1, 0]⟩,
          ⟨6, ⟨(some 26), none, .op (.bin .xor (.t 22) (.t 25))⟩, [5, 4, 3, 2, 1, 0]⟩,
          ⟨7, ⟨(some 27), none, .op (.ixa 8 1 (.t 6) (.c (.d (.int .i64 4))))⟩, []⟩,
          ⟨8, ⟨(some 28), none, .op (.load false 1 (.t 27) false)⟩, [7]⟩,
          ⟨9, ⟨(some 29), none, .call 60 [(.t 28), (.c (.d (.int .i64 25)))] none⟩, [8, 7, 5, 4, 3, 2, 1, 0]⟩,
          ⟨10, ⟨(some 30), none, .op (.bin .xor (.t 26) (.t 29))⟩, [6, 9, 8, 7, 5, 4, 3, 2, 1, 0]⟩,
          ⟨11, ⟨(some 8), none, .op (.mv (.t 30) true)⟩, [10, 6, 9, 8, 7, 5, 4, 3, 2, 1, 0]⟩]) <|
        .seq (.draw [⟨0, ⟨(some 31), none, .op (.ixa 8 1 (.t 6) (.c (.d (.int .i64 0))))⟩, []⟩,
          ⟨1, ⟨(some 32), none, .op (.load false 1 (.t 31) false)⟩, [0]⟩,
          ⟨2, ⟨(some 33), none, .call 60 [(.t 32), (.c (.d (.int .i64 2)))] none⟩, [1, 0]⟩,
          ⟨3, ⟨(some 34), none, .op (.ixa 8 1 (.t 6) (.c (.d (.int .i64 0))))⟩, []⟩,
          ⟨4, ⟨(some 35), none, .op (.load false 1 (.t 34) false)⟩, [3]⟩,
          ⟨5, ⟨(some 36), none, .call 60 [(.t 35), (.c (.d (.int .i64 13)))] none⟩, [4, 3, 2, 1, 0]⟩,
          ⟨6, ⟨(some 37), none, .op (.bin .xor (.t 33) (.t 36))⟩, [5, 4, 3, 2, 1, 0]⟩,
          ⟨7, ⟨(some 38), none, .op (.ixa 8 1 (.t 6) (.c (.d (.int .i64 0))))⟩, []⟩,
          ⟨8, ⟨(some 39), none, .op (.load false 1 (.t 38) false)⟩, [7]⟩,
          ⟨9, ⟨(some 40), none, .call 60 [(.t 39), (.c (.d (.int .i64 22)))] none⟩, [8, 7, 5, 4, 3, 2, 1, 0]⟩,
          ⟨10, ⟨(some 41), none, .op (.bin .xor (.t 37) (.t 40))⟩, [6, 9, 8, 7, 5, 4, 3, 2, 1, 0]⟩,
          ⟨11, ⟨(some 9), none, .op (.mv (.t 41) true)⟩, [10, 6, 9, 8, 7, 5, 4, 3, 2, 1, 0]⟩]) <|
        .seq (.draw [⟨0, ⟨(some 42), none, .op (.ixa 8 1 (.t 6) (.c (.d (.int .i64 7))))⟩, []⟩,
          ⟨1, ⟨(some 43), none, .op (.load false 1 (.t 42) false)⟩, [0]⟩,
          ⟨2, ⟨(some 44), none, .op (.mv (.t 8) false)⟩, []⟩,
          ⟨3, ⟨(some 45), none, .op (.bin .add (.t 43) (.t 44))⟩, [1, 0, 2]⟩,
          ⟨4, ⟨(some 46), none, .op (.ixa 8 1 (.t 6) (.c (.d (.int .i64 4))))⟩, []⟩,
          ⟨5, ⟨(some 47), none, .op (.load false 1 (.t 46) false)⟩, [4]⟩,
          ⟨6, ⟨(some 48), none, .op (.ixa 8 1 (.t 6) (.c (.d (.int .i64 5))))⟩, []⟩,
          ⟨7, ⟨(some 49), none, .op (.load false 1 (.t 48) false)⟩, [6]⟩,
          ⟨8, ⟨(some 50), none, .op (.bin .and (.t 47) (.t 49))⟩, [5, 4, 7, 6]⟩,
          ⟨9, ⟨(some 51), none, .op (.ixa 8 1 (.t 6) (.c (.d (.int .i64 4))))⟩, []⟩,
          ⟨10, ⟨(some 52), none, .op (.load false 1 (.t 51) false)⟩, [9]⟩,
          ⟨11, ⟨(some 53), none, .op (.un .xor (.t 52))⟩, [10, 9]⟩,
          ⟨12, ⟨(some 54), none, .op (.ixa 8 1 (.t 6) (.c (.d (.int .i64 6))))⟩, []⟩,
          ⟨13, ⟨(some 55), none, .op (.load false 1 (.t 54) false)⟩, [12]⟩,
          ⟨14, ⟨(some 56), none, .op (.bin .and (.t 53) (.t 55))⟩, [11, 10, 9, 13, 12]⟩,
          ⟨15, ⟨(some 57), none, .op (.bin .xor (.t 50) (.t 56))⟩, [8, 5, 4, 7, 6, 14, 11, 10, 9, 13, 12]⟩,
          ⟨16, ⟨(some 58), none, .op (.bin .add (.t 45) (.t 57))⟩, [3, 1, 0, 2, 15, 8, 5, 4, 7, 6, 14, 11, 10, 9, 13, 12]⟩,
          ⟨17, ⟨(some 59), none, .op (.mv (.t 7) false)⟩, []⟩,
          ⟨18, ⟨(some 60), none, .call 61 [(.t 59)] none⟩, [17]⟩,
          ⟨19, ⟨(some 61), none, .op (.bin .add (.t 58) (.t 60))⟩, [16, 3, 1, 0, 2, 15, 8, 5, 4, 7, 6, 14, 11, 10, 9, 13, 12, 18, 17]⟩,
          ⟨20, ⟨(some 62), none, .op (.mv (.t 5) false)⟩, []⟩,
          ⟨21, ⟨(some 63), none, .op (.mv (.t 7) false)⟩, []⟩,
          ⟨22, ⟨(some 64), none, .op (.ixs 1 (.t 62) (.t 63))⟩, [20, 21]⟩,
          ⟨23, ⟨(some 65), none, .op (.load false 1 (.t 64) false)⟩, [22, 20, 21]⟩,
          ⟨24, ⟨(some 66), none, .op (.bin .add (.t 61) (.t 65))⟩, [19, 16, 3, 1, 0, 2, 15, 8, 5, 4, 7, 6, 14, 11, 10, 9, 13, 12, 18, 17, 23, 22, 20, 21]⟩,
          ⟨25, ⟨(some 10), none, .op (.mv (.t 66) true)⟩, [24, 19, 16, 3, 1, 0, 2, 15, 8, 5, 4, 7, 6, 14, 11, 10, 9, 13, 12, 18, 17, 23, 22, 20, 21]⟩]) <|
        .seq (.reg [⟨(some 67), none, .op (.mv (.t 9) false)⟩,
          ⟨(some 68), none, .op (.ixa 8 1 (.t 6) (.c (.d (.int .i64 0))))⟩,
          ⟨(some 69), none, .op (.load false 1 (.t 68) false)⟩,
          ⟨(some 70), none, .op (.ixa 8 1 (.t 6) (.c (.d (.int .i64 1))))⟩,
          ⟨(some 71), none, .op (.load false 1 (.t 70) false)⟩,
          ⟨(some 72), none, .op (.bin .and (.t 69) (.t 71))⟩,
          ⟨(some 73), none, .op (.ixa 8 1 (.t 6) (.c (.d (.int .i64 0))))⟩,
          ⟨(some 74), none, .op (.load false 1 (.t 73) false)⟩,
          ⟨(some 75), none, .op (.ixa 8 1 (.t 6) (.c (.d (.int .i64 2))))⟩,
          ⟨(some 76), none, .op (.load false 1 (.t 75) false)⟩,
          ⟨(some 77), none, .op (.bin .and (.t 74) (.t 76))⟩,
          ⟨(some 78), none, .op (.bin .xor (.t 72) (.t 77))⟩,
          ⟨(some 79), none, .op (.ixa 8 1 (.t 6) (.c (.d (.int .i64 1))))⟩,
          ⟨(some 80), none, .op (.load false 1 (.t 79) false)⟩,
          ⟨(some 81), none, .op (.ixa 8 1 (.t 6) (.c (.d (.int .i64 2))))⟩,
          ⟨(some 82), none, .op (.load false 1 (.t 81) false)⟩,
          ⟨(some 83), none, .op (.bin .and (.t 80) (.t 82))⟩,
          ⟨(some 84), none, .op (.bin .xor (.t 78) (.t 83))⟩,
          ⟨(some 85), none, .op (.bin .add (.t 67) (.t 84))⟩,
          ⟨(some 11), none, .op (.mv (.t 85) true)⟩]) <|
        .reg [⟨(some 86), none, .op (.mv (.t 10) false)⟩,
          ⟨(some 87), none, .op (.mv (.t 11) false)⟩,
          ⟨(some 88), none, .op (.bin .add (.t 86) (.t 87))⟩,
          ⟨(some 89), none, .op (.ixa 8 1 (.t 6) (.c (.d (.int .i64 0))))⟩,
          ⟨(some 90), none, .op (.load false 1 (.t 89) false)⟩,
          ⟨(some 91), none, .op (.ixa 8 1 (.t 6) (.c (.d (.int .i64 1))))⟩,
          ⟨(some 92), none, .op (.load false 1 (.t 91) false)⟩,
          ⟨(some 93), none, .op (.ixa 8 1 (.t 6) (.c (.d (.int .i64 2))))⟩,
          ⟨(some 94), none, .op (.load false 1 (.t 93) false)⟩,
          ⟨(some 95), none, .op (.ixa 8 1 (.t 6) (.c (.d (.int .i64 3))))⟩,
          ⟨(some 96), none, .op (.load false 1 (.t 95) false)⟩,
          ⟨(some 97), none, .op (.mv (.t 10) false)⟩,
          ⟨(some 98), none, .op (.bin .add (.t 96) (.t 97))⟩,
          ⟨(some 99), none, .op (.ixa 8 1 (.t 6) (.c (.d (.int .i64 4))))⟩,
          ⟨(some 100), none, .op (.load false 1 (.t 99) false)⟩,
          ⟨(some 101), none, .op (.ixa 8 1 (.t 6) (.c (.d (.int .i64 5))))⟩,
          ⟨(some 102), none, .op (.load false 1 (.t 101) false)⟩,
          ⟨(some 103), none, .op (.ixa 8 1 (.t 6) (.c (.d (.int .i64 6))))⟩,
          ⟨(some 104), none, .op (.load false 1 (.t 103) false)⟩,
          ⟨(some 105), none, .op (.build [.d (.int .u32 0), .d (.int .u32 0), .d (.int .u32 0), .d (.int .u32 0), .d (.int .u32 0), .d (.int .u32 0), .d (.int .u32 0), .d (.int .u32 0)] [(0, 1, (.t 88)), (1, 1, (.t 90)), (2, 1, (.t 92)), (3, 1, (.t 94)), (4, 1, (.t 98)), (5, 1, (.t 100)), (6, 1, (.t 102)), (7, 1, (.t 104))])⟩,
          ⟨none, none, .op (.store 8 (.t 6) (.t 105))⟩])) <|
      .reg [⟨(some 18), none, .op (.mv (.t 7) false)⟩,
        ⟨(some 19), none, .op (.bin .add (.t 18) (.c (.d (.int .i64 1))))⟩,
        ⟨(some 7), none, .op (.mv (.t 19) true)⟩]))) <|
  .seq (.seq (.reg [⟨(some 12), none, .op (.mv (.c (.d (.int .i64 0))) true)⟩]) <|
  .block 2 (
    .loop (
      .seq (.seq (.reg [⟨(some 106), none, .op (.mv (.t 12) false)⟩,
        ⟨(some 107), none, .op (.bin .lss (.t 106) (.c (.d (.int .i64 8))))⟩]) <|
      .cond (.t 107) (.skip) (.exit 2)) <|
      .seq (.block 3 (
        .draw [⟨0, ⟨(some 110), none, .op (.mv (.t 12) false)⟩, []⟩,
          ⟨1, ⟨(some 111), none, .op (.ixa 8 1 (.t 6) (.t 110))⟩, [0]⟩,
          ⟨2, ⟨(some 112), none, .op (.load false 1 (.t 111) false)⟩, [1, 0]⟩,
          ⟨3, ⟨(some 113), none, .op (.mv (.t 12) false)⟩, []⟩,
          ⟨4, ⟨(some 114), none, .op (.ixa 8 1 (.t 2) (.t 113))⟩, [3]⟩,
          ⟨5, ⟨(some 115), none, .op (.load false 1 (.t 114) false)⟩, [4, 3]⟩,
          ⟨6, ⟨(some 116), none, .op (.bin .add (.t 112) (.t 115))⟩, [2, 1, 0, 5, 4, 3]⟩,
          ⟨7, ⟨(some 117), none, .op (.ixa 8 1 (.t 6) (.t 110))⟩, [6, 2, 1, 0, 5, 4, 3]⟩,
          ⟨8, ⟨none, none, .op (.store 1 (.t 117) (.t 116))⟩, [7, 6, 2, 1, 0, 5, 4, 3]⟩])) <|
      .reg [⟨(some 108), none, .op (.mv (.t 12) false)⟩,
        ⟨(some 109), none, .op (.bin .add (.t 108) (.c (.d (.int .i64 1))))⟩,
        ⟨(some 12), none, .op (.mv (.t 109) true)⟩]))) <|
  .seq (.reg [⟨(some 118), none, .op (.load true 8 (.t 6) true)⟩,
    ⟨none, none, .op (.store 8 (.t 4) (.t 118))⟩]) <|
  .ret
theorem k42 : Tryd.f42.body.bind (comp Tryd.prog [] Tryd.f42.ntmps) = some c42 := by kernel_rfl
theorem r42 : cRes Tryd.prog Tryd.f42.results.toList = some [.c 4 true 8] := by kernel_rfl

theorem wc_8 {a b c d e f g i : Int} : wc [a, b, c, d, e, f, g, i] = [.d (.int .u32 a), .d (.int .u32 b), .d (.int .u32 c), .d (.int .u32 d), .d (.int .u32 e), .d (.int .u32 f), .d (.int .u32 g), .d (.int .u32 i)] := rfl

theorem cs_block' {S B : List Int} (hS : S.length = 8) (hB : B.length = 64) {R : Out → Prop} (h : R (.ret [.agg (wc (blockS S B))] [] [])) :
    CS Tryd.prog 42 [.agg (wc S), .agg (yc B)] [] [] R := by
  refine CS.go0 Tryd.func42 k42 r42 (by kernel_rfl) ?_
  unfold c42
  have tB : B.take 64 = B := List.take_of_length_le (by omega)
  have tS : S.take 8 = S := List.take_of_length_le (by omega)
  have hW := words1_len (B := B) (n := 48)
  simp (maxSteps := 10000000) -dsimp only [go_sem, simprocAttr, hS, hB, tB]
  refine kCS_intro (cs_words' hB ?_)
  unfold blockS at h
  generalize words1 B 48 = W at h hW
  simp (maxSteps := 10000000) -dsimp only [go_sem, simprocAttr, hW, lay_all, hS, tS]
  refine kLoop_intro (loop_rule (ι := { i : Nat // i ≤ 64 }) (fun i => ⟨Tryd.f42.ntmps, 1000, [(7, .d (.int .i64 i.1)), (2, .ptr 1002 0), (4, .ptr 1004 0), (5, .d (.sl 1 (wsl W))), (6, .ptr 1006 0)],
    [(1006, wc (rounds W S i.1)), (1004, wc (List.replicate 8 0)), (1002, wc S)], []⟩) (fun i => 64 - i.1) ⟨0, by omega⟩ ?_ (fun _ => ⟨rfl, rfl⟩) ?_)
  · refine weak_mk ?_ ?_ ?_ ?_ ?_ <;> simp (maxSteps := 10000000) -dsimp only [go_sem, simprocAttr, rounds_zero]
    exact wkC_refl (wc (List.replicate 8 0))
  rintro ⟨i, hi⟩
  have hl := rounds_len (W := W) hS (n := i)
  obtain ⟨a, b, c, d, e, f, g, p, hT⟩ := wc8 hl
  by_cases hlt : i < 64
  · have wi := wsl_get (l := W) (i := i) (by omega)
    have h1 : decide ((i : Int) < 64) = true := by simp; omega
    have hr := rounds_succ (W := W) (S := S) (n := i)
    rw [hT] at hr
    simp only [hT, wc_8]
    generalize hZ : (wc (List.replicate 8 0)) = Z
    simp (maxSteps := 10000000) -dsimp only [go_sem, simprocAttr, h1]
    obtain ⟨qe6, hqe6⟩ : ∃ q, q = turnR e 6 := ⟨_, rfl⟩
    refine kDC_intro (.d (.int .u32 qe6)) (cs_turn' (R := fun o => o = _) (by omega) (by rw [hqe6])) (fun _ => by simp (maxSteps := 10000000) -dsimp only [go_sem, simprocAttr]) (fun _ => by simp (maxSteps := 10000000) -dsimp only [go_sem, simprocAttr]) ⟨rfl, by simp (maxSteps := 10000000) -dsimp only [go_sem, simprocAttr]⟩ ?_
    simp (maxSteps := 10000000) -dsimp only [go_sem, simprocAttr]
    obtain ⟨qe11, hqe11⟩ : ∃ q, q = turnR e 11 := ⟨_, rfl⟩
    refine kDC_intro (.d (.int .u32 qe11)) (cs_turn' (R := fun o => o = _) (by omega) (by rw [hqe11])) (fun _ => by simp (maxSteps := 10000000) -dsimp only [go_sem, simprocAttr]) (fun _ => by simp (maxSteps := 10000000) -dsimp only [go_sem, simprocAttr]) ⟨rfl, by simp (maxSteps := 10000000) -dsimp only [go_sem, simprocAttr]⟩ ?_
    simp (maxSteps := 10000000) -dsimp only [go_sem, simprocAttr]
    obtain ⟨qe25, hqe25⟩ : ∃ q, q = turnR e 25 := ⟨_, rfl⟩
    refine kDC_intro (.d (.int .u32 qe25)) (cs_turn' (R := fun o => o = _) (by omega) (by rw [hqe25])) (fun _ => by simp (maxSteps := 10000000) -dsimp only [go_sem, simprocAttr]) (fun _ => by simp (maxSteps := 10000000) -dsimp only [go_sem, simprocAttr]) ⟨rfl, by simp (maxSteps := 10000000) -dsimp only [go_sem, simprocAttr]⟩ ?_
    simp (maxSteps := 10000000) -dsimp only [go_sem, simprocAttr]
    obtain ⟨qa2, hqa2⟩ : ∃ q, q = turnR a 2 := ⟨_, rfl⟩
    refine kDC_intro (.d (.int .u32 qa2)) (cs_turn' (R := fun o => o = _) (by omega) (by rw [hqa2])) (fun _ => by simp (maxSteps := 10000000) -dsimp only [go_sem, simprocAttr]) (fun _ => by simp (maxSteps := 10000000) -dsimp only [go_sem, simprocAttr]) ⟨rfl, by simp (maxSteps := 10000000) -dsimp only [go_sem, simprocAttr]⟩ ?_
    simp (maxSteps := 10000000) -dsimp only [go_sem, simprocAttr]
    obtain ⟨qa13, hqa13⟩ : ∃ q, q = turnR a 13 := ⟨_, rfl⟩
    refine kDC_intro (.d (.int .u32 qa13)) (cs_turn' (R := fun o => o = _) (by omega) (by rw [hqa13])) (fun _ => by simp (maxSteps := 10000000) -dsimp only [go_sem, simprocAttr]) (fun _ => by simp (maxSteps := 10000000) -dsimp only [go_sem, simprocAttr]) ⟨rfl, by simp (maxSteps := 10000000) -dsimp only [go_sem, simprocAttr]⟩ ?_
    simp (maxSteps := 10000000) -dsimp only [go_sem, simprocAttr]
    obtain ⟨qa22, hqa22⟩ : ∃ q, q = turnR a 22 := ⟨_, rfl⟩
    refine kDC_intro (.d (.int .u32 qa22)) (cs_turn' (R := fun o => o = _) (by omega) (by rw [hqa22])) (fun _ => by simp (maxSteps := 10000000) -dsimp only [go_sem, simprocAttr]) (fun _ => by simp (maxSteps := 10000000) -dsimp only [go_sem, simprocAttr]) ⟨rfl, by simp (maxSteps := 10000000) -dsimp only [go_sem, simprocAttr]⟩ ?_
    simp (maxSteps := 10000000) -dsimp only [go_sem, simprocAttr]
    obtain ⟨kk, hkk⟩ : ∃ q, q = kTab.getD i 0 := ⟨_, rfl⟩
    refine kDC_intro (.d (.int .u32 kk)) (cs_constant' (R := fun o => o = _) hlt (by rw [hkk])) (fun _ => by simp (maxSteps := 10000000) -dsimp only [go_sem, simprocAttr]) (fun _ => by simp (maxSteps := 10000000) -dsimp only [go_sem, simprocAttr]) ⟨rfl, by simp (maxSteps := 10000000) -dsimp only [go_sem, simprocAttr]⟩ ?_
    simp (maxSteps := 10000000) -dsimp only [go_sem, simprocAttr, hW]
    refine kAnd_intro (by omega) ?_
    simp (maxSteps := 10000000) -dsimp only [go_sem, simprocAttr, wi, lay_all]
    refine ⟨⟨i + 1, hlt⟩, by show _ - (i + 1) < _ - i; omega, ?_⟩
    refine weak_mk ?_ ?_ ?_ ?_ ?_ <;> simp (maxSteps := 10000000) -dsimp only [go_sem, simprocAttr]
    · refine ⟨?_, wkC_refl _⟩
      rw [hr]
      subst hqe6 hqe11 hqe25 hqa2 hqa13 hqa22 hkk
      have : ∀ L M : List A, L = M → wkC L M := fun L M e => by rw [e]; exact wkC_refl _
      refine this _ _ ?_
      unfold roundS oneR twoR
      rfl
    · rw [← hZ]; exact okL_wc
    · rw [wrap_i64 (by omega) (by omega)]; rfl
  · have : i = 64 := by omega
    subst this
    have h1 : decide (((64 : Nat) : Int) < 64) = false := rfl
    simp (maxSteps := 10000000) -dsimp only [go_sem, simprocAttr, h1]
    refine kLoop_intro (loop_rule (ι := { i : Nat // i ≤ 8 }) (fun i => ⟨Tryd.f42.ntmps, 1000, [(12, .d (.int .i64 i.1)), (2, .ptr 1002 0), (4, .ptr 1004 0), (6, .ptr 1006 0)],
      [(1006, wc (addS S (rounds W S 64) i.1)), (1004, wc (List.replicate 8 0)), (1002, wc S)], []⟩) (fun i => 8 - i.1) ⟨0, by omega⟩ ?_ (fun _ => ⟨rfl, rfl⟩) ?_)
    · refine weak_mk ?_ ?_ ?_ ?_ ?_ <;> simp (maxSteps := 10000000) -dsimp only [go_sem, simprocAttr, addS_zero]
    rintro ⟨j, hj⟩
    have hl2 : (addS S (rounds W S 64) j).length = 8 := by rw [addS_len]; exact rounds_len hS
    simp (maxSteps := 10000000) -dsimp only [go_sem, simprocAttr]
    refine kIf_intro (fun h2 => ?_) (fun h2 => ?_)
    · have hlt : j < 8 := by simp at h2; omega
      have a1 := wc_get (l := addS S (rounds W S 64) j) (i := j) (by omega)
      have a2 := wc_get (l := S) (i := j) (by omega)
      simp (maxSteps := 10000000) -dsimp only [go_sem, simprocAttr, a1, a2]
      refine kAnd_intro (by omega) ?_
      simp (maxSteps := 10000000) -dsimp only [go_sem, simprocAttr, a1, a2]
      refine kAnd_intro (by omega) ?_
      simp (maxSteps := 10000000) -dsimp only [go_sem, simprocAttr, a1, a2]
      refine kAnd_intro (by omega) ?_
      simp (maxSteps := 10000000) -dsimp only [go_sem, simprocAttr, hl2]
      refine kAnd_intro (by omega) ?_
      simp (maxSteps := 10000000) -dsimp only [go_sem, simprocAttr]
      refine ⟨⟨j + 1, hlt⟩, by show _ - (j + 1) < _ - j; omega, ?_⟩
      refine weak_mk ?_ ?_ ?_ ?_ ?_ <;> simp (maxSteps := 10000000) -dsimp only [go_sem, simprocAttr, addS_succ]
      · exact wkC_eq rfl
      · rw [wrap_i64 (by omega) (by omega)]; rfl
    · have : j = 8 := by simp at h2; omega
      subst this
      have t8 : (addS S (rounds W S 64) 8).take 8 = addS S (rounds W S 64) 8 := List.take_of_length_le (by omega)
      simp (maxSteps := 10000000) -dsimp only [go_sem, simprocAttr, hl2, t8, lay_all]
      exact h

end Go.Vx

/- SHA-256 by the document: the first state, padding. -/
namespace Go.Vx
set_option linter.unusedVariables false
set_option linter.unusedSimpArgs false
open Go Go.Proofs
set_option linter.unusedSimpArgs false
set_option linter.unusedVariables false
set_option maxRecDepth 10000
set_option maxHeartbeats 4000000
attribute [local irreducible] blockS

/-- excise/exciseref24.First -/
def c41 : AC :=
  .seq (.reg [⟨(some 0), none, .op (.alloc [.d (.int .u32 0), .d (.int .u32 0), .d (.int .u32 0), .d (.int .u32 0), .d (.int .u32 0), .d (.int .u32 0), .d (.int .u32 0), .d (.int .u32 0)] [])⟩]) <|
  .seq (.reg [⟨(some 1), none, .op (.build [.d (.int .u32 0), .d (.int .u32 0), .d (.int .u32 0), .d (.int .u32 0), .d (.int .u32 0), .d (.int .u32 0), .d (.int .u32 0), .d (.int .u32 0)] [(0, 1, (.c (.d (.int .u32 1779033703)))), (1, 1, (.c (.d (.int .u32 3144134277)))), (2, 1, (.c (.d (.int .u32 1013904242)))), (3, 1, (.c (.d (.int .u32 2773480762)))), (4, 1, (.c (.d (.int .u32 1359893119)))), (5, 1, (.c (.d (.int .u32 2600822924)))), (6, 1, (.c (.d (.int .u32 528734635)))), (7, 1, (.c (.d (.int .u32 1541459225))))])⟩,
    ⟨none, none, .op (.store 8 (.t 0) (.t 1))⟩]) <|
  .ret
theorem k41 : Tryd.f41.body.bind (comp Tryd.prog [] Tryd.f41.ntmps) = some c41 := by kernel_rfl
theorem r41 : cRes Tryd.prog Tryd.f41.results.toList = some [.c 0 true 8] := by kernel_rfl

theorem cs_first' {R : Out → Prop} (h : R (.ret [.agg (wc firstS)] [] [])) : CS Tryd.prog 41 [] [] [] R := by
  refine CS.go0 Tryd.func41 k41 r41 (by kernel_rfl) ?_
  unfold c41
  simp (maxSteps := 10000000) -dsimp only [go_sem, simprocAttr]
  exact h

/-- excise/exciseref24.Pad -/
def c40 : AC :=
  .seq (.reg [⟨(some 2), none, .op (.nil 1)⟩]) <|
  .seq (.seq (.reg [⟨(some 6), none, .op (.mv (.t 0) false)⟩,
    ⟨(some 7), none, .op (.bin .lss (.t 6) (.c (.d (.int .i64 0))))⟩]) <|
  .cond (.t 7) (.seq (.reg [⟨(some 2), none, .op (.nil 1)⟩]) <|
    .ret) (.skip)) <|
  .seq (.reg [⟨(some 8), none, .op (.bslc 1 1 [.int .u8 0] [(0, 1, (.c (.d (.int .u8 128))))])⟩,
    ⟨(some 3), none, .op (.mv (.t 8) true)⟩]) <|
  .seq (.block 0 (
    .loop (
      .seq (.seq (.reg [⟨(some 9), none, .op (.mv (.t 0) false)⟩,
        ⟨(some 10), none, .op (.bin .rem (.t 9) (.c (.d (.int .i64 64))))⟩,
        ⟨(some 11), none, .op (.mv (.t 3) false)⟩,
        ⟨(some 12), none, .op (.len (.t 11))⟩,
        ⟨(some 13), none, .op (.bin .add (.t 10) (.t 12))⟩,
        ⟨(some 14), none, .op (.bin .add (.t 13) (.c (.d (.int .i64 8))))⟩,
        ⟨(some 15), none, .op (.bin .rem (.t 14) (.c (.d (.int .i64 64))))⟩,
        ⟨(some 16), none, .op (.bin .neq (.t 15) (.c (.d (.int .i64 0))))⟩]) <|
      .cond (.t 16) (.skip) (.exit 0)) <|
      .block 1 (
        .reg [⟨(some 17), none, .op (.mv (.t 3) true)⟩,
          ⟨(some 18), none, .op (.bslc 1 1 [.int .u8 0] [(0, 1, (.c (.d (.int .u8 0))))])⟩,
          ⟨(some 19), none, .op (.app 1 1 (.t 17) (.t 18))⟩,
          ⟨(some 3), none, .op (.mv (.t 19) true)⟩])))) <|
  .seq (.reg [⟨(some 20), none, .op (.mv (.t 0) false)⟩,
    ⟨(some 21), none, .op (.cvi .u64 (.t 20))⟩,
    ⟨(some 22), none, .op (.bin .mul (.t 21) (.c (.d (.int .u64 8))))⟩,
    ⟨(some 4), none, .op (.mv (.t 22) true)⟩]) <|
  .seq (.seq (.reg [⟨(some 5), none, .op (.mv (.c (.d (.int .i64 56))) true)⟩]) <|
  .block 2 (
    .loop (
      .seq (.seq (.reg [⟨(some 23), none, .op (.mv (.t 5) false)⟩,
        ⟨(some 24), none, .op (.bin .geq (.t 23) (.c (.d (.int .i64 0))))⟩]) <|
      .cond (.t 24) (.skip) (.exit 2)) <|
      .seq (.block 3 (
        .reg [⟨(some 27), none, .op (.mv (.t 3) true)⟩,
          ⟨(some 28), none, .op (.mv (.t 4) false)⟩,
          ⟨(some 29), none, .op (.mv (.t 5) false)⟩,
          ⟨(some 30), none, .op (.bin .shr (.t 28) (.t 29))⟩,
          ⟨(some 31), none, .op (.cvi .u8 (.t 30))⟩,
          ⟨(some 32), none, .op (.bslc 1 1 [.int .u8 0] [(0, 1, (.t 31))])⟩,
          ⟨(some 33), none, .op (.app 1 1 (.t 27) (.t 32))⟩,
          ⟨(some 3), none, .op (.mv (.t 33) true)⟩])) <|
      .reg [⟨(some 25), none, .op (.mv (.t 5) false)⟩,
        ⟨(some 26), none, .op (.bin .sub (.t 25) (.c (.d (.int .i64 8))))⟩,
        ⟨(some 5), none, .op (.mv (.t 26) true)⟩]))) <|
  .seq (.reg [⟨(some 34), none, .op (.mv (.t 3) false)⟩,
    ⟨(some 2), none, .op (.mv (.t 34) true)⟩]) <|
  .ret
theorem k40 : Tryd.f40.body.bind (comp Tryd.prog [] Tryd.f40.ntmps) = some c40 := by kernel_rfl
theorem r40 : cRes Tryd.prog Tryd.f40.results.toList = some [.t 2] := by kernel_rfl

theorem cs_pad' {N : Nat} (hN : N ≤ 281474976710656) {R : Out → Prop} (h : R (.ret [.d (.sl 1 (byt (padS N)))] [] [])) :
    CS Tryd.prog 40 [.d (.int .i64 N)] [] [] R := by
  refine CS.go0 Tryd.func40 k40 r40 (by kernel_rfl) ?_
  unfold c40
  simp (maxSteps := 10000000) -dsimp only [go_sem, simprocAttr]
  refine kIf_intro (fun h0 => ?_) (fun h0 => ?_)
  · exfalso; simp at h0; omega
  simp (maxSteps := 10000000) -dsimp only [go_sem, simprocAttr]
  have hm : mPad N < 64 := by unfold mPad; omega
  refine kLoop_intro (loop_rule (ι := { i : Nat // i ≤ mPad N }) (fun i => ⟨Tryd.f40.ntmps, 1000, [(3, .d (.sl 1 (byt (padH i.1)))), (0, .d (.int .i64 N))], [], [(.t 3, 1)]⟩) (fun i => mPad N - i.1) ⟨0, by omega⟩ ?_ (fun _ => ⟨rfl, rfl⟩) ?_)
  · refine weak_mk ?_ ?_ ?_ ?_ ?_ <;> simp (maxSteps := 10000000) -dsimp only [go_sem, simprocAttr]
    all_goals rfl
  rintro ⟨i, hi⟩
  have hlen := padH_len (i := i)
  simp (maxSteps := 10000000) -dsimp only [go_sem, simprocAttr, hlen]
  refine kImp_intro (fun hl => ?_)
  have e1 : IntKind.i64.wrap (((N % 64 : Nat) : Int) + ((i + 1 : Nat) : Int)) = ((N % 64 + (i + 1) : Nat) : Int) := by rw [wrap_i64 (by omega) (by omega)]; omega
  have e2 : IntKind.i64.wrap (((N % 64 + (i + 1) : Nat) : Int) + 8) = ((N % 64 + (i + 1) + 8 : Nat) : Int) := by rw [wrap_i64 (by omega) (by omega)]; omega
  simp (maxSteps := 10000000) -dsimp only [go_sem, simprocAttr, hlen, tmod64, e1, e2]
  refine kIf_intro (fun h1 => ?_) (fun h1 => ?_)
  · have hlt : i < mPad N := by
      simp at h1
      unfold mPad at hi ⊢
      omega
    simp (maxSteps := 10000000) -dsimp only [go_sem, simprocAttr, hlen]
    refine kImp_intro (fun hl2 => ?_)
    simp (maxSteps := 10000000) -dsimp only [go_sem, simprocAttr]
    refine kAnd_intro (by omega) ?_
    simp (maxSteps := 10000000) -dsimp only [go_sem, simprocAttr, hlen]
    refine kAnd_intro (by omega) ?_
    simp (maxSteps := 10000000) -dsimp only [go_sem, simprocAttr]
    refine ⟨⟨i + 1, hlt⟩, by show _ - (i + 1) < _ - i; omega, ?_⟩
    refine weak_mk ?_ ?_ ?_ ?_ ?_ <;> simp (maxSteps := 10000000) -dsimp only [go_sem, simprocAttr]
    rw [padH_succ, byt_app]
    rfl
  · have hm2 : i = mPad N := by
      simp at h1
      unfold mPad at hi ⊢
      omega
    subst hm2
    simp (maxSteps := 10000000) -dsimp only [go_sem, simprocAttr]
    refine kLoop_intro (loop_rule (ι := { i : Nat // i ≤ 8 }) (fun i => ⟨Tryd.f40.ntmps, 1000, [(5, .d (.int .i64 (56 - 8 * (i.1 : Int)))), (3, .d (.sl 1 (byt (padO N i.1)))), (4, .d (.int .u64 (bits8 N)))], [], [(.t 3, 1)]⟩) (fun i => 8 - i.1) ⟨0, by omega⟩ ?_ (fun _ => ⟨rfl, rfl⟩) ?_)
    · refine weak_mk ?_ ?_ ?_ ?_ ?_ <;> simp (maxSteps := 10000000) -dsimp only [go_sem, simprocAttr]
      rw [padO_zero]; exact ⟨rfl, rfl⟩
    rintro ⟨j, hj⟩
    have hbl := padO_len (N := N) (j := j)
    simp (maxSteps := 10000000) -dsimp only [go_sem, simprocAttr]
    refine kIf_intro (fun h2 => ?_) (fun h2 => ?_)
    · have hlt : j < 8 := by simp at h2; omega
      simp (maxSteps := 10000000) -dsimp only [go_sem, simprocAttr]
      refine kAnd_intro (by omega) ?_
      simp (maxSteps := 10000000) -dsimp only [go_sem, simprocAttr]
      refine kImp_intro (fun hl2 => ?_)
      simp (maxSteps := 10000000) -dsimp only [go_sem, simprocAttr]
      refine kAnd_intro (by omega) ?_
      simp (maxSteps := 10000000) -dsimp only [go_sem, simprocAttr, hbl]
      refine kAnd_intro (by omega) ?_
      simp (maxSteps := 10000000) -dsimp only [go_sem, simprocAttr]
      refine ⟨⟨j + 1, hlt⟩, by show _ - (j + 1) < _ - j; omega, ?_⟩
      refine weak_mk ?_ ?_ ?_ ?_ ?_ <;> simp (maxSteps := 10000000) -dsimp only [go_sem, simprocAttr]
      rw [wrap_i64 (by omega) (by omega)]
      refine ⟨by congr 2; omega, ?_⟩
      rw [padO_succ, byt_app]
      rfl
    · have : j = 8 := by simp at h2; omega
      subst this
      simp (maxSteps := 10000000) -dsimp only [go_sem, simprocAttr]
      exact h

end Go.Vx

/- SHA-256 by the document: the sum. -/
namespace Go.Vx
set_option linter.unusedVariables false
set_option linter.unusedSimpArgs false
open Go Go.Proofs
set_option linter.unusedSimpArgs false
set_option linter.unusedVariables false
set_option maxRecDepth 10000
set_option maxHeartbeats 4000000
attribute [local irreducible] blockS

theorem absorb_app {S : List Int} {a c : List Int} : absorb (absorb S a).1 ((absorb S a).2 ++ c) = absorb S (a ++ c) := by
  generalize hn : a.length = n
  induction n using Nat.strongRecOn generalizing S a with
  | _ n ih =>
    by_cases h : a.length < 64
    · rw [absorb_lt h]
    · rw [absorb_ge (L := a) h, absorb_ge (L := a ++ c) (by simp; omega)]
      rw [ih (a.drop 64).length (by rw [List.length_drop]; omega) rfl]
      rw [List.take_append, List.drop_append, show 64 - a.length = 0 by omega, List.take_zero, List.drop_zero, List.append_nil]
theorem shaF_all {b : List Int} : shaF b = (absorb firstS (b ++ padS b.length)).1.flatMap wordB := by rw [shaF, absorb_app]

theorem flat_get : ∀ (S : List Int) (q r : Nat), q < S.length → r < 4 → (S.flatMap wordB)[4 * q + r]? = some (u8w ((S.getD q 0).fdiv (2 ^ (24 - 8 * r))))
  | [], q, r, h, _ => by simp at h
  | x :: S, 0, r, _, hr => by
    rw [List.flatMap_cons, Nat.mul_zero, Nat.zero_add, List.getElem?_append_left (by simp [wordB]; omega)]
    obtain rfl | rfl | rfl | rfl : r = 0 ∨ r = 1 ∨ r = 2 ∨ r = 3 := by omega
    · rfl
    · rfl
    · rfl
    · show some (u8w x) = some (u8w (x.fdiv 1))
      rw [Int.fdiv_one]
  | x :: S, q + 1, r, h, hr => by
    rw [List.flatMap_cons, List.getElem?_append_right (by simp [wordB]; omega)]
    have : 4 * (q + 1) + r - (wordB x).length = 4 * q + r := by simp [wordB]; omega
    rw [this, flat_get S q r (by simpa using h) hr]
    rfl

/-- Cells laid so far. -/
def layT (Z T : List Int) (k : Nat) : List Int := lay Z 0 (T.take k)
theorem layT_zero {Z T : List Int} : layT Z T 0 = Z := rfl
theorem layT_len {Z T : List Int} {k : Nat} : (layT Z T k).length = Z.length := by unfold layT; exact lay_len _ _ _
theorem layT_succ {Z T : List Int} {k : Nat} {x : Int} (h : T[k]? = some x) : layT Z T (k + 1) = (layT Z T k).set k x := by
  have hk : k < T.length := (List.getElem?_eq_some_iff.1 h).1
  unfold layT
  rw [List.take_add_one, h]
  simp only [Option.toList_some]
  rw [lay_app, List.length_take, Nat.min_eq_left (by omega), Nat.zero_add]
  rfl
theorem layT_all {Z T : List Int} {k : Nat} (hk : T.length = k) (h : Z.length = T.length) : layT Z T k = T := by
  unfold layT
  rw [List.take_of_length_le (by omega)]
  exact lay_all (by omega)
attribute [irreducible] layT

theorem tmod4 (a : Nat) : ((a : Nat) : Int).tmod 4 = ((a % 4 : Nat) : Int) := by
  rw [Int.tmod_eq_emod_of_nonneg (by omega)]; omega
theorem tdiv4 (a : Nat) : ((a : Nat) : Int).tdiv 4 = ((a / 4 : Nat) : Int) := by
  rw [Int.tdiv_eq_ediv_of_nonneg (by omega)]; omega

/-- excise/exciseref24.Sum -/
def c26 : AC :=
  .seq (.reg [⟨(some 2), none, .op (.alloc [.d (.int .u8 0), .d (.int .u8 0), .d (.int .u8 0), .d (.int .u8 0), .d (.int .u8 0), .d (.int .u8 0), .d (.int .u8 0), .d (.int .u8 0), .d (.int .u8 0), .d (.int .u8 0), .d (.int .u8 0), .d (.int .u8 0), .d (.int .u8 0), .d (.int .u8 0), .d (.int .u8 0), .d (.int .u8 0), .d (.int .u8 0), .d (.int .u8 0), .d (.int .u8 0), .d (.int .u8 0), .d (.int .u8 0), .d (.int .u8 0), .d (.int .u8 0), .d (.int .u8 0), .d (.int .u8 0), .d (.int .u8 0), .d (.int .u8 0), .d (.int .u8 0), .d (.int .u8 0), .d (.int .u8 0), .d (.int .u8 0), .d (.int .u8 0)] [])⟩]) <|
  .seq (.reg [⟨(some 10), none, .op (.mv (.t 0) false)⟩,
    ⟨(some 11), none, .op (.app 1 1 (.c (.d (.sl 0 []))) (.t 10))⟩,
    ⟨(some 12), none, .op (.mv (.t 0) false)⟩,
    ⟨(some 13), none, .op (.len (.t 12))⟩,
    ⟨(some 14), none, .call 40 [(.t 13)] none⟩,
    ⟨(some 15), none, .op (.app 1 1 (.t 11) (.t 14))⟩,
    ⟨(some 3), none, .op (.mv (.t 15) true)⟩]) <|
  .seq (.reg [⟨(some 16), none, .call 41 [] none⟩,
    ⟨(some 4), none, .op (.alloc [.d (.int .u32 0), .d (.int .u32 0), .d (.int .u32 0), .d (.int .u32 0), .d (.int .u32 0), .d (.int .u32 0), .d (.int .u32 0), .d (.int .u32 0)] [])⟩,
    ⟨none, none, .op (.store 8 (.t 4) (.t 16))⟩]) <|
  .seq (.seq (.reg [⟨(some 5), none, .op (.mv (.c (.d (.int .i64 0))) true)⟩]) <|
  .block 0 (
    .loop (
      .seq (.seq (.reg [⟨(some 17), none, .op (.mv (.t 5) false)⟩,
        ⟨(some 18), none, .op (.bin .add (.t 17) (.c (.d (.int .i64 64))))⟩,
        ⟨(some 19), none, .op (.mv (.t 3) false)⟩,
        ⟨(some 20), none, .op (.len (.t 19))⟩,
        ⟨(some 21), none, .op (.bin .leq (.t 18) (.t 20))⟩]) <|
      .cond (.t 21) (.skip) (.exit 0)) <|
      .seq (.block 1 (
        .seq (.reg [⟨(some 6), none, .op (.alloc (yc zer64) [])⟩]) <|
        .seq (.seq (.reg [⟨(some 7), none, .op (.mv (.c (.d (.int .i64 0))) true)⟩]) <|
        .block 2 (
          .loop (
            .seq (.seq (.reg [⟨(some 24), none, .op (.mv (.t 7) false)⟩,
              ⟨(some 25), none, .op (.bin .lss (.t 24) (.c (.d (.int .i64 64))))⟩]) <|
            .cond (.t 25) (.skip) (.exit 2)) <|
            .seq (.block 3 (
              .reg [⟨(some 28), none, .op (.mv (.t 7) false)⟩,
                ⟨(some 29), none, .op (.mv (.t 3) false)⟩,
                ⟨(some 30), none, .op (.mv (.t 5) false)⟩,
                ⟨(some 31), none, .op (.mv (.t 7) false)⟩,
                ⟨(some 32), none, .op (.bin .add (.t 30) (.t 31))⟩,
                ⟨(some 33), none, .op (.ixs 1 (.t 29) (.t 32))⟩,
                ⟨(some 34), none, .op (.load false 1 (.t 33) true)⟩,
                ⟨(some 35), none, .op (.ixa 64 1 (.t 6) (.t 28))⟩,
                ⟨none, none, .op (.store 1 (.t 35) (.t 34))⟩])) <|
            .reg [⟨(some 26), none, .op (.mv (.t 7) false)⟩,
              ⟨(some 27), none, .op (.bin .add (.t 26) (.c (.d (.int .i64 1))))⟩,
              ⟨(some 7), none, .op (.mv (.t 27) true)⟩]))) <|
        .reg [⟨(some 36), none, .op (.load true 8 (.t 4) false)⟩,
          ⟨(some 37), none, .op (.load true 64 (.t 6) false)⟩,
          ⟨(some 38), none, .call 42 [(.t 36), (.t 37)] none⟩,
          ⟨none, none, .op (.store 8 (.t 4) (.t 38))⟩])) <|
      .reg [⟨(some 22), none, .op (.mv (.t 5) false)⟩,
        ⟨(some 23), none, .op (.bin .add (.t 22) (.c (.d (.int .i64 64))))⟩,
        ⟨(some 5), none, .op (.mv (.t 23) true)⟩]))) <|
  .seq (.reg [⟨(some 8), none, .op (.alloc [.d (.int .u8 0), .d (.int .u8 0), .d (.int .u8 0), .d (.int .u8 0), .d (.int .u8 0), .d (.int .u8 0), .d (.int .u8 0), .d (.int .u8 0), .d (.int .u8 0), .d (.int .u8 0), .d (.int .u8 0), .d (.int .u8 0), .d (.int .u8 0), .d (.int .u8 0), .d (.int .u8 0), .d (.int .u8 0), .d (.int .u8 0), .d (.int .u8 0), .d (.int .u8 0), .d (.int .u8 0), .d (.int .u8 0), .d (.int .u8 0), .d (.int .u8 0), .d (.int .u8 0), .d (.int .u8 0), .d (.int .u8 0), .d (.int .u8 0), .d (.int .u8 0), .d (.int .u8 0), .d (.int .u8 0), .d (.int .u8 0), .d (.int .u8 0)] [])⟩]) <|
  .seq (.seq (.reg [⟨(some 9), none, .op (.mv (.c (.d (.int .i64 0))) true)⟩]) <|
  .block 4 (
    .loop (
      .seq (.seq (.reg [⟨(some 39), none, .op (.mv (.t 9) false)⟩,
        ⟨(some 40), none, .op (.bin .lss (.t 39) (.c (.d (.int .i64 32))))⟩]) <|
      .cond (.t 40) (.skip) (.exit 4)) <|
      .seq (.block 5 (
        .reg [⟨(some 43), none, .op (.mv (.t 9) false)⟩,
          ⟨(some 44), none, .op (.mv (.t 9) false)⟩,
          ⟨(some 45), none, .op (.bin .quo (.t 44) (.c (.d (.int .i64 4))))⟩,
          ⟨(some 46), none, .op (.ixa 8 1 (.t 4) (.t 45))⟩,
          ⟨(some 47), none, .op (.load false 1 (.t 46) false)⟩,
          ⟨(some 48), none, .op (.mv (.t 9) false)⟩,
          ⟨(some 49), none, .op (.bin .rem (.t 48) (.c (.d (.int .i64 4))))⟩,
          ⟨(some 50), none, .op (.bin .mul (.c (.d (.int .i64 8))) (.t 49))⟩,
          ⟨(some 51), none, .op (.bin .sub (.c (.d (.int .i64 24))) (.t 50))⟩,
          ⟨(some 52), none, .op (.bin .shr (.t 47) (.t 51))⟩,
          ⟨(some 53), none, .op (.cvi .u8 (.t 52))⟩,
          ⟨(some 54), none, .op (.ixa 32 1 (.t 8) (.t 43))⟩,
          ⟨none, none, .op (.store 1 (.t 54) (.t 53))⟩])) <|
      .reg [⟨(some 41), none, .op (.mv (.t 9) false)⟩,
        ⟨(some 42), none, .op (.bin .add (.t 41) (.c (.d (.int .i64 1))))⟩,
        ⟨(some 9), none, .op (.mv (.t 42) true)⟩]))) <|
  .seq (.reg [⟨(some 55), none, .op (.load true 32 (.t 8) true)⟩,
    ⟨none, none, .op (.store 32 (.t 2) (.t 55))⟩]) <|
  .ret
theorem k26 : Tryd.f26.body.bind (comp Tryd.prog [] Tryd.f26.ntmps) = some c26 := by kernel_rfl
theorem r26 : cRes Tryd.prog Tryd.f26.results.toList = some [.c 2 true 32] := by kernel_rfl

theorem cs_sum' {b : List Int} (hN : b.length ≤ 140737488355000) {R : Out → Prop} (h : R (.ret [.agg (yc (shaF b))] [] [])) :
    CS Tryd.prog 26 [.d (.sl 1 (byt b))] [] [] R := by
  refine CS.go0 Tryd.func26 k26 r26 (by kernel_rfl) ?_
  unfold c26
  rw [shaF_all] at h
  have hpl : (padS b.length).length ≤ 128 := by
    rw [padS, padO_len]; unfold mPad; omega
  simp (maxSteps := 10000000) -dsimp only [go_sem, simprocAttr]
  refine kImp_intro (fun hl => ?_)
  simp (maxSteps := 10000000) -dsimp only [go_sem, simprocAttr]
  refine kAnd_intro (by omega) ?_
  simp (maxSteps := 10000000) -dsimp only [go_sem, simprocAttr]
  refine kAnd_intro (by omega) ?_
  simp (maxSteps := 10000000) -dsimp only [go_sem, simprocAttr]
  refine kImp_intro (fun _ => ?_)
  simp (maxSteps := 10000000) -dsimp only [go_sem, simprocAttr]
  refine kCS_intro (cs_pad' (by omega) ?_)
  simp (maxSteps := 10000000) -dsimp only [go_sem, simprocAttr]
  refine kImp_intro (fun _ => ?_)
  simp (maxSteps := 10000000) -dsimp only [go_sem, simprocAttr]
  refine kImp_intro (fun _ => ?_)
  simp (maxSteps := 10000000) -dsimp only [go_sem, simprocAttr]
  refine kAnd_intro (by omega) ?_
  simp (maxSteps := 10000000) -dsimp only [go_sem, simprocAttr]
  refine kAnd_intro (by omega) ?_
  simp (maxSteps := 10000000) -dsimp only [go_sem, simprocAttr]
  refine kCS_intro (cs_first' ?_)
  rw [← byt_app]
  have hal : (b ++ padS b.length).length ≤ 140737488355328 := by rw [List.length_append]; omega
  generalize b ++ padS b.length = T at h hal
  simp (maxSteps := 10000000) -dsimp only [go_sem, simprocAttr, firstS, wc]
  have hz := zer64_len
  refine kLoop_intro (loop_rule (ι := { p : List Int × Nat // p.1.length = 8 ∧ 64 * p.2 ≤ T.length ∧ absorb p.1 (T.drop (64 * p.2)) = absorb firstS T })
    (fun p => ⟨Tryd.f26.ntmps, 1000, [(5, .d (.int .i64 (64 * p.1.2 : Nat))), (4, .ptr 1004 0), (3, .d (.sl 1 (byt T))), (2, .ptr 1002 0)],
      [(1004, wc p.1.1), (1002, yc (List.replicate 32 0))], []⟩) (fun p => T.length - 64 * p.1.2) ⟨(firstS, 0), rfl, by omega, rfl⟩ ?_ (fun _ => ⟨rfl, rfl⟩) ?_)
  · refine weak_mk ?_ ?_ ?_ ?_ ?_ <;> simp (maxSteps := 10000000) -dsimp only [go_sem, simprocAttr]
    exact ⟨wkC_refl (wc firstS), wkC_refl (yc (List.replicate 32 0))⟩
  rintro ⟨⟨S, q⟩, hS, hq, hinv⟩
  simp only at hS hq hinv
  have e1 : IntKind.i64.wrap (((64 * q : Nat) : Int) + 64) = ((64 * q + 64 : Nat) : Int) := by rw [wrap_i64 (by omega) (by omega)]; omega
  simp (maxSteps := 10000000) -dsimp only [go_sem, simprocAttr, e1]
  refine kImp_intro (fun _ => ?_)
  simp (maxSteps := 10000000) -dsimp only [go_sem, simprocAttr]
  refine kIf_intro (fun h1 => ?_) (fun h1 => ?_)
  · have hge : 64 * q + 64 ≤ T.length := by simp at h1; omega
    simp (maxSteps := 10000000) -dsimp only [go_sem, simprocAttr]
    refine kLoop_intro (loop_rule (ι := { k : Nat // k ≤ 64 })
      (fun k => ⟨Tryd.f26.ntmps, 1000, [(7, .d (.int .i64 k.1)), (6, .ptr 1006 0), (5, .d (.int .i64 (64 * q : Nat))), (4, .ptr 1004 0), (3, .d (.sl 1 (byt T))), (2, .ptr 1002 0)],
        [(1006, yc (layT zer64 (T.drop (64 * q)) k.1)), (1004, wc S), (1002, yc (List.replicate 32 0))], []⟩) (fun k => 64 - k.1) ⟨0, by omega⟩ ?_ (fun _ => ⟨rfl, rfl⟩) ?_)
    · refine weak_mk ?_ ?_ ?_ ?_ ?_ <;> simp (maxSteps := 10000000) -dsimp only [go_sem, simprocAttr, layT_zero]
    rintro ⟨k, hk⟩
    have hl4 := layT_len (Z := zer64) (T := T.drop (64 * q)) (k := k)
    simp (maxSteps := 10000000) -dsimp only [go_sem, simprocAttr]
    refine kIf_intro (fun h2 => ?_) (fun h2 => ?_)
    · have hlt : k < 64 := by simp at h2; omega
      have e2 : IntKind.i64.wrap (((64 * q : Nat) : Int) + (k : Int)) = ((64 * q + k : Nat) : Int) := by rw [wrap_i64 (by omega) (by omega)]; omega
      have b0 := byt_get (l := T) (i := 64 * q + k) (by omega)
      simp (maxSteps := 10000000) -dsimp only [go_sem, simprocAttr, e2, b0]
      refine kAnd_intro (by omega) ?_
      simp (maxSteps := 10000000) -dsimp only [go_sem, simprocAttr, e2, b0]
      refine kAnd_intro (by omega) ?_
      simp (maxSteps := 10000000) -dsimp only [go_sem, simprocAttr, hl4, hz]
      refine kAnd_intro (by omega) ?_
      simp (maxSteps := 10000000) -dsimp only [go_sem, simprocAttr]
      refine ⟨⟨k + 1, hlt⟩, by show _ - (k + 1) < _ - k; omega, ?_⟩
      refine weak_mk ?_ ?_ ?_ ?_ ?_ <;> simp (maxSteps := 10000000) -dsimp only [go_sem, simprocAttr]
      · have hx : (T.drop (64 * q))[k]? = some (T.getD (64 * q + k) 0) := by
          rw [List.getElem?_drop, List.getD_eq_getElem?_getD, List.getElem?_eq_getElem (by omega)]; rfl
        rw [layT_succ hx]
        exact wkC_refl _
      · rw [wrap_i64 (by omega) (by omega)]; rfl
    · have : k = 64 := by simp at h2; omega
      subst this
      have hB : layT zer64 (T.drop (64 * q)) 64 = (T.drop (64 * q)).take 64 := by
        unfold layT
        exact lay_all (by rw [List.length_take, List.length_drop, hz]; omega)
      have hBl : ((T.drop (64 * q)).take 64).length = 64 := by rw [List.length_take, List.length_drop]; omega
      have hS8 : S.take 8 = S := List.take_of_length_le (by omega)
      have hB64 : ((T.drop (64 * q)).take 64).take 64 = (T.drop (64 * q)).take 64 := List.take_of_length_le (by omega)
      have hstep : absorb (blockS S ((T.drop (64 * q)).take 64)) (T.drop (64 * (q + 1))) = absorb firstS T := by
        rw [← hinv, absorb_ge (L := T.drop (64 * q)) (by rw [List.length_drop]; omega), List.drop_drop, Nat.mul_add]
      generalize (T.drop (64 * q)).take 64 = B at hB hBl hB64 hstep
      have hbl := blockS_len (S := S) (B := B) hS
      simp (maxSteps := 10000000) -dsimp only [go_sem, simprocAttr, hB, hS, hS8, hBl, hB64]
      refine kCS_intro (cs_block' hS hBl ?_)
      simp (maxSteps := 10000000) -dsimp only [go_sem, simprocAttr, hbl, hS, lay_all]
      refine ⟨⟨(blockS S B, q + 1), hbl, by omega, hstep⟩, by show _ - 64 * (q + 1) < _ - 64 * q; omega, ?_⟩
      refine weak_mk ?_ ?_ ?_ ?_ ?_ <;> simp (maxSteps := 10000000) -dsimp only [go_sem, simprocAttr]
      all_goals (first | rfl | (rw [e1]; rfl) | trace_state)
  · have hlt : T.length < 64 * q + 64 := by simp at h1; omega
    rw [absorb_lt (by rw [List.length_drop]; omega)] at hinv
    rw [← hinv] at h
    simp only at h
    have hfl := flat_len (l := S)
    have hfg := fun q r => flat_get S q r
    generalize S.flatMap wordB = F at h hfl hfg
    simp (maxSteps := 10000000) -dsimp only [go_sem, simprocAttr]
    refine kLoop_intro (loop_rule (ι := { k : Nat // k ≤ 32 })
      (fun k => ⟨Tryd.f26.ntmps, 1000, [(9, .d (.int .i64 k.1)), (8, .ptr 1008 0), (4, .ptr 1004 0), (2, .ptr 1002 0)],
        [(1008, yc (layT zer32 F k.1)), (1004, wc S), (1002, yc (List.replicate 32 0))], []⟩) (fun k => 32 - k.1) ⟨0, by omega⟩ ?_ (fun _ => ⟨rfl, rfl⟩) ?_)
    · refine weak_mk ?_ ?_ ?_ ?_ ?_ <;> simp (maxSteps := 10000000) -dsimp only [go_sem, simprocAttr, layT_zero]
      all_goals exact wkC_refl (yc (List.replicate 32 0))
    rintro ⟨k, hk⟩
    have hl4 := layT_len (Z := zer32) (T := F) (k := k)
    have hz32 : zer32.length = 32 := by simp [zer32]
    rw [hz32] at hl4
    simp (maxSteps := 10000000) -dsimp only [go_sem, simprocAttr]
    refine kIf_intro (fun h2 => ?_) (fun h2 => ?_)
    · have hlt : k < 32 := by simp at h2; omega
      have e2 : IntKind.i64.wrap (8 * ((k % 4 : Nat) : Int)) = ((8 * (k % 4) : Nat) : Int) := by rw [wrap_i64 (by omega) (by omega)]; omega
      have e3 : IntKind.i64.wrap (24 - ((8 * (k % 4) : Nat) : Int)) = ((24 - 8 * (k % 4) : Nat) : Int) := by rw [wrap_i64 (by omega) (by omega)]; omega
      have e4 : IntKind.i64.wrap ((k / 4 : Nat) : Int) = ((k / 4 : Nat) : Int) := wrap_i64 (by omega) (by omega)
      have g := wc_get (l := S) (i := k / 4) (by omega)
      simp (maxSteps := 10000000) -dsimp only [go_sem, simprocAttr, e2, e3, e4, tmod4, tdiv4, g]
      refine kAnd_intro (by omega) ?_
      simp (maxSteps := 10000000) -dsimp only [go_sem, simprocAttr, e2, e3, e4, tmod4, tdiv4, g]
      refine kAnd_intro (by omega) ?_
      simp (maxSteps := 10000000) -dsimp only [go_sem, simprocAttr, e2, e3, e4, tmod4, tdiv4, g]
      refine kAnd_intro (by omega) ?_
      simp (maxSteps := 10000000) -dsimp only [go_sem, simprocAttr, hl4]
      refine kAnd_intro (by omega) ?_
      simp (maxSteps := 10000000) -dsimp only [go_sem, simprocAttr]
      refine ⟨⟨k + 1, hlt⟩, by show _ - (k + 1) < _ - k; omega, ?_⟩
      refine weak_mk ?_ ?_ ?_ ?_ ?_ <;> simp (maxSteps := 10000000) -dsimp only [go_sem, simprocAttr]
      · have hx := hfg (k / 4) (k % 4) (by omega) (by omega)
        rw [show 4 * (k / 4) + k % 4 = k by omega] at hx
        rw [layT_succ hx, Nat.min_eq_left (by omega)]
        exact wkC_refl _
      · rw [wrap_i64 (by omega) (by omega)]; rfl
    · have : k = 32 := by simp at h2; omega
      subst this
      have hF : layT zer32 F 32 = F := layT_all (by omega) (by omega)
      have hF32 : F.take 32 = F := List.take_of_length_le (by omega)
      have hFl : F.length = 32 := by omega
      simp (maxSteps := 10000000) -dsimp only [go_sem, simprocAttr, hF, hF32, hFl, lay_all]
      exact h

end Go.Vx

/- A number's bytes by the document. -/
namespace Go.Vx
set_option linter.unusedVariables false
set_option linter.unusedSimpArgs false
open Go Go.Proofs
set_option linter.unusedSimpArgs false
set_option linter.unusedVariables false
set_option maxRecDepth 10000
set_option maxHeartbeats 4000000

theorem trim0_snoc {l : List Int} {b : Int} : trim0 (l ++ [b]) = if trim0 l = [] then (if b = 0 then [] else [b]) else trim0 l ++ [b] := by
  unfold trim0
  rw [List.dropWhile_append]
  cases h : l.dropWhile (· == 0) with
  | nil => by_cases hb : b = 0 <;> simp [hb, List.dropWhile_cons]
  | cons x r => simp
theorem tmod8 (a : Nat) : ((a : Nat) : Int).tmod 8 = ((a % 8 : Nat) : Int) := by
  rw [Int.tmod_eq_emod_of_nonneg (by omega)]; omega
theorem tdiv8 (a : Nat) : ((a : Nat) : Int).tdiv 8 = ((a / 8 : Nat) : Int) := by
  rw [Int.tdiv_eq_ediv_of_nonneg (by omega)]; omega
def limb (n0 n1 n2 n3 : Int) (q : Nat) : Int := [n0, n1, n2, n3].getD q 0
def all4 (n0 n1 n2 n3 : Int) : List Int := be n3 ++ be n2 ++ be n1 ++ be n0
theorem be_len {n : Int} : (be n).length = 8 := by simp [be]
theorem be_get {n : Int} {m : Nat} (h : m < 8) : (be n)[m]? = some (IntKind.u8.wrap (n.fdiv (2 ^ (min (56 - 8 * (m : Int)).toNat 64)))) := by
  simp [be, h]
theorem all4_len {n0 n1 n2 n3 : Int} : (all4 n0 n1 n2 n3).length = 32 := by simp [all4, be_len]
theorem all4_get {n0 n1 n2 n3 : Int} {i : Nat} (h : i < 32) : (all4 n0 n1 n2 n3)[31 - i]? = some (IntKind.u8.wrap ((limb n0 n1 n2 n3 (i / 8)).fdiv (2 ^ (min (8 * (i % 8)) 64)))) := by
  have hp : ∀ n, (be n)[7 - i % 8]? = some (IntKind.u8.wrap (n.fdiv (2 ^ (min (8 * (i % 8)) 64)))) := fun n => by
    rw [be_get (by omega)]
    have : min (56 - 8 * ((7 - i % 8 : Nat) : Int)).toNat 64 = min (8 * (i % 8)) 64 := by omega
    rw [this]
  unfold all4
  obtain e | e | e | e : i / 8 = 3 ∨ i / 8 = 2 ∨ i / 8 = 1 ∨ i / 8 = 0 := by omega
  · rw [e, List.getElem?_append_left (by simp [be_len]; omega), List.getElem?_append_left (by simp [be_len]; omega), List.getElem?_append_left (by simp [be_len]; omega), show 31 - i = 7 - i % 8 by omega]
    exact hp n3
  · rw [e, List.getElem?_append_left (by simp [be_len]; omega), List.getElem?_append_left (by simp [be_len]; omega), List.getElem?_append_right (by simp [be_len]; omega), be_len, show 31 - i - 8 = 7 - i % 8 by omega]
    exact hp n2
  · rw [e, List.getElem?_append_left (by simp [be_len]; omega), List.getElem?_append_right (by simp [be_len]; omega)]
    rw [show 31 - i - (be n3 ++ be n2).length = 7 - i % 8 by simp [be_len]; omega]
    exact hp n1
  · rw [e, List.getElem?_append_right (by simp [be_len]; omega)]
    rw [show 31 - i - (be n3 ++ be n2 ++ be n1).length = 7 - i % 8 by simp [be_len]; omega]
    exact hp n0
theorem trim0_len {l : List Int} : (trim0 l).length ≤ l.length := (List.dropWhile_sublist _).length_le

/-- excise/exciseref25.natural -/
def c58 : AC :=
  .seq (.reg [⟨(some 1), none, .op (.box 4 (.t 0))⟩,
    ⟨(some 2), none, .op (.nil 1)⟩]) <|
  .seq (.reg [⟨(some 3), none, .op (.nil 1)⟩]) <|
  .seq (.seq (.reg [⟨(some 4), none, .op (.mv (.c (.d (.int .i64 31))) true)⟩]) <|
  .block 0 (
    .loop (
      .seq (.seq (.reg [⟨(some 6), none, .op (.mv (.t 4) false)⟩,
        ⟨(some 7), none, .op (.bin .geq (.t 6) (.c (.d (.int .i64 0))))⟩]) <|
      .cond (.t 7) (.skip) (.exit 0)) <|
      .seq (.block 1 (
        .seq (.reg [⟨(some 10), none, .op (.mv (.t 4) false)⟩,
          ⟨(some 11), none, .op (.bin .quo (.t 10) (.c (.d (.int .i64 8))))⟩,
          ⟨(some 12), none, .op (.ixa 4 1 (.t 1) (.t 11))⟩,
          ⟨(some 13), none, .op (.load false 1 (.t 12) false)⟩,
          ⟨(some 14), none, .op (.mv (.t 4) false)⟩,
          ⟨(some 15), none, .op (.bin .rem (.t 14) (.c (.d (.int .i64 8))))⟩,
          ⟨(some 16), none, .op (.bin .mul (.t 15) (.c (.d (.int .i64 8))))⟩,
          ⟨(some 17), none, .op (.bin .shr (.t 13) (.t 16))⟩,
          ⟨(some 18), none, .op (.cvi .u8 (.t 17))⟩,
          ⟨(some 5), none, .op (.mv (.t 18) true)⟩]) <|
        .seq (.reg [⟨(some 19), none, .op (.mv (.t 3) false)⟩,
          ⟨(some 20), none, .op (.len (.t 19))⟩,
          ⟨(some 21), none, .op (.bin .gtr (.t 20) (.c (.d (.int .i64 0))))⟩,
          ⟨(some 22), none, .op (.mv (.t 21) false)⟩,
          ⟨(some 23), (some (22, false)), .op (.mv (.t 5) false)⟩,
          ⟨(some 24), (some (22, false)), .op (.bin .neq (.t 23) (.c (.d (.int .u8 0))))⟩,
          ⟨(some 25), none, .op (.pick (.t 22) (.c (.d (.bool true))) (.t 24))⟩]) <|
        .cond (.t 25) (.reg [⟨(some 26), none, .op (.mv (.t 3) true)⟩,
            ⟨(some 27), none, .op (.mv (.t 5) false)⟩,
            ⟨(some 28), none, .op (.bslc 1 1 [.int .u8 0] [(0, 1, (.t 27))])⟩,
            ⟨(some 29), none, .op (.app 1 1 (.t 26) (.t 28))⟩,
            ⟨(some 3), none, .op (.mv (.t 29) true)⟩]) (.skip))) <|
      .reg [⟨(some 8), none, .op (.mv (.t 4) false)⟩,
        ⟨(some 9), none, .op (.bin .sub (.t 8) (.c (.d (.int .i64 1))))⟩,
        ⟨(some 4), none, .op (.mv (.t 9) true)⟩]))) <|
  .seq (.reg [⟨(some 30), none, .op (.mv (.t 3) false)⟩,
    ⟨(some 2), none, .op (.mv (.t 30) true)⟩]) <|
  .ret
theorem k58 : Tryd.f58.body.bind (comp Tryd.prog [] Tryd.f58.ntmps) = some c58 := by kernel_rfl
theorem r58 : cRes Tryd.prog Tryd.f58.results.toList = some [.t 2] := by kernel_rfl

theorem cs_natural {n0 n1 n2 n3 : Int} {R : Out → Prop} (h : R (.ret [.d (.sl 1 (bys (digits n0 n1 n2 n3)))] [] [])) :
    CS Tryd.prog 58 [.agg [.d (.int .u64 n0), .d (.int .u64 n1), .d (.int .u64 n2), .d (.int .u64 n3)]] [] [] R := by
  refine CS.go0 Tryd.func58 k58 r58 (by kernel_rfl) ?_
  unfold c58
  simp (maxSteps := 10000000) -dsimp only [go_sem, simprocAttr]
  refine kLoop_intro (loop_rule (ι := { j : Nat // j ≤ 32 }) (fun j => ⟨Tryd.f58.ntmps, 1000, [(4, .d (.int .i64 (31 - (j.1 : Int)))), (3, .d (.sl 1 (bys (trim0 ((all4 n0 n1 n2 n3).take j.1))))), (1, .ptr 1001 0)],
    [(1001, [.d (.int .u64 n0), .d (.int .u64 n1), .d (.int .u64 n2), .d (.int .u64 n3)])], [(.t 3, 1)]⟩) (fun j => 32 - j.1) ⟨0, by omega⟩ ?_ (fun _ => ⟨rfl, rfl⟩) ?_)
  · refine weak_mk ?_ ?_ ?_ ?_ ?_ <;> simp (maxSteps := 10000000) -dsimp only [go_sem, simprocAttr]
    all_goals first | rfl | exact ⟨rfl, rfl⟩
  rintro ⟨j, hj⟩
  have hlen : (trim0 ((all4 n0 n1 n2 n3).take j)).length ≤ 32 := Nat.le_trans trim0_len (by rw [List.length_take, all4_len]; omega)
  simp (maxSteps := 10000000) -dsimp only [go_sem, simprocAttr]
  refine kIf_intro (fun h1 => ?_) (fun h1 => ?_)
  · have hlt : j < 32 := by simp at h1; omega
    have e0 : (31 : Int) - (j : Int) = ((31 - j : Nat) : Int) := by omega
    have hg := all4_get (n0 := n0) (n1 := n1) (n2 := n2) (n3 := n3) (i := 31 - j) (by omega)
    rw [show 31 - (31 - j) = j by omega] at hg
    obtain ⟨i, hi⟩ : ∃ i, i = 31 - j := ⟨_, rfl⟩
    rw [← hi] at e0 hg
    have e1 : IntKind.i64.wrap ((i / 8 : Nat) : Int) = ((i / 8 : Nat) : Int) := wrap_i64 (by omega) (by omega)
    have e2 : IntKind.i64.wrap (((i % 8 : Nat) : Int) * 8) = ((8 * (i % 8) : Nat) : Int) := by rw [wrap_i64 (by omega) (by omega)]; omega
    have hq : [A.d (.int .u64 n0), .d (.int .u64 n1), .d (.int .u64 n2), .d (.int .u64 n3)][i / 8]? = some (.d (.int .u64 (limb n0 n1 n2 n3 (i / 8)))) := by
      obtain e | e | e | e : i / 8 = 3 ∨ i / 8 = 2 ∨ i / 8 = 1 ∨ i / 8 = 0 := by omega
      all_goals rw [e]; rfl
    simp (maxSteps := 10000000) -dsimp only [go_sem, simprocAttr, e0, tdiv8, e1]
    refine kAnd_intro (by omega) ?_
    simp (maxSteps := 10000000) -dsimp only [go_sem, simprocAttr, e0, hq, tmod8, e2]
    refine kAnd_intro (by omega) ?_
    simp (maxSteps := 10000000) -dsimp only [go_sem, simprocAttr, e0]
    refine kImp_intro (fun _ => ?_)
    simp (maxSteps := 10000000) -dsimp only [go_sem, simprocAttr]
    obtain ⟨B, hB⟩ : ∃ B, B = IntKind.u8.wrap ((limb n0 n1 n2 n3 (i / 8)).fdiv (2 ^ (min (8 * (i % 8)) 64))) := ⟨_, rfl⟩
    rw [← hB] at hg ⊢
    have hT := trim0_snoc (l := (all4 n0 n1 n2 n3).take j) (b := B)
    have hT2 : (all4 n0 n1 n2 n3).take j ++ [B] = (all4 n0 n1 n2 n3).take (j + 1) := by rw [List.take_add_one, hg]; rfl
    rw [hT2] at hT
    refine kIf_intro (fun h2 => ?_) (fun h2 => ?_)
    · have hne : trim0 ((all4 n0 n1 n2 n3).take j) ≠ [] := by
        intro q; rw [q] at h2; simp at h2
      rw [if_neg hne] at hT
      simp (maxSteps := 10000000) -dsimp only [go_sem, simprocAttr]
      refine kImp_intro (fun _ => ?_)
      simp (maxSteps := 10000000) -dsimp only [go_sem, simprocAttr]
      refine kAnd_intro (by omega) ?_
      simp (maxSteps := 10000000) -dsimp only [go_sem, simprocAttr]
      refine kAnd_intro (by omega) ?_
      simp (maxSteps := 10000000) -dsimp only [go_sem, simprocAttr]
      refine ⟨⟨j + 1, hlt⟩, by show _ - (j + 1) < _ - j; omega, ?_⟩
      refine weak_mk ?_ ?_ ?_ ?_ ?_ <;> simp (maxSteps := 10000000) -dsimp only [go_sem, simprocAttr]
      rw [wrap_i64 (by omega) (by omega), hT, bys_app]
      exact ⟨by first | omega | (congr 2; omega) | (congr 3; omega), rfl⟩
    · have hz : trim0 ((all4 n0 n1 n2 n3).take j) = [] := by
        cases hq : trim0 ((all4 n0 n1 n2 n3).take j) with
        | nil => rfl
        | cons x r => rw [hq] at h2; simp at h2
      rw [if_pos hz] at hT
      simp (maxSteps := 10000000) -dsimp only [go_sem, simprocAttr]
      refine kIf_intro (fun h3 => ?_) (fun h3 => ?_)
      · have hB0 : B ≠ 0 := by simpa using h3
        rw [if_neg hB0] at hT
        simp (maxSteps := 10000000) -dsimp only [go_sem, simprocAttr]
        refine kImp_intro (fun _ => ?_)
        simp (maxSteps := 10000000) -dsimp only [go_sem, simprocAttr]
        refine kAnd_intro (by omega) ?_
        simp (maxSteps := 10000000) -dsimp only [go_sem, simprocAttr]
        refine kAnd_intro (by omega) ?_
        simp (maxSteps := 10000000) -dsimp only [go_sem, simprocAttr]
        refine ⟨⟨j + 1, hlt⟩, by show _ - (j + 1) < _ - j; omega, ?_⟩
        refine weak_mk ?_ ?_ ?_ ?_ ?_ <;> simp (maxSteps := 10000000) -dsimp only [go_sem, simprocAttr]
        rw [wrap_i64 (by omega) (by omega), hT, hz]
        refine ⟨by first | omega | (congr 2; omega) | (congr 3; omega), rfl⟩
      · have hB0 : B = 0 := by simpa using h3
        rw [if_pos hB0] at hT
        simp (maxSteps := 10000000) -dsimp only [go_sem, simprocAttr]
        refine ⟨⟨j + 1, hlt⟩, by show _ - (j + 1) < _ - j; omega, ?_⟩
        refine weak_mk ?_ ?_ ?_ ?_ ?_ <;> simp (maxSteps := 10000000) -dsimp only [go_sem, simprocAttr]
        rw [wrap_i64 (by omega) (by omega), hT, hz]
        refine ⟨by first | omega | (congr 2; omega) | (congr 3; omega), rfl⟩
  · have : j = 32 := by simp at h1; omega
    subst this
    have ht : (all4 n0 n1 n2 n3).take 32 = all4 n0 n1 n2 n3 := List.take_of_length_le (by rw [all4_len]; exact Nat.le_refl _)
    simp (maxSteps := 10000000) -dsimp only [go_sem, simprocAttr, ht]
    exact h

end Go.Vx

/- A value's bytes by the document. -/
namespace Go.Vx
set_option linter.unusedVariables false
set_option linter.unusedSimpArgs false
open Go Go.Proofs
set_option linter.unusedSimpArgs false
set_option linter.unusedVariables false
set_option maxRecDepth 10000
set_option maxHeartbeats 4000000

/-- excise/exciseref25.one -/
def c39 : AC :=
  .seq (.reg [⟨(some 3), none, .op (.box 10 (.t 1))⟩,
    ⟨(some 4), none, .op (.nil 1)⟩]) <|
  .seq (.reg [⟨(some 8), none, .op (.mv (.t 0) true)⟩,
    ⟨(some 9), none, .op (.fa 0 (.t 3))⟩,
    ⟨(some 10), none, .op (.load false 1 (.t 9) false)⟩,
    ⟨(some 11), none, .op (.cvi .u8 (.t 10))⟩,
    ⟨(some 12), none, .op (.bslc 1 1 [.int .u8 0] [(0, 1, (.t 11))])⟩,
    ⟨(some 13), none, .op (.app 1 1 (.t 8) (.t 12))⟩,
    ⟨(some 0), none, .op (.mv (.t 13) true)⟩]) <|
  .seq (.seq (.reg [⟨(some 14), none, .op (.fa 0 (.t 3))⟩,
    ⟨(some 15), none, .op (.load false 1 (.t 14) false)⟩]) <|
  .block 0 (
    .seq (.reg [⟨(some 17), none, .op (.bin .eql (.t 15) (.c (.d (.int .i64 1))))⟩,
      ⟨(some 16), none, .op (.mv (.t 17) true)⟩]) <|
    .cond (.t 16) (.seq (.reg [⟨(some 18), none, .op (.fa 1 (.t 3))⟩,
        ⟨(some 19), none, .op (.fa 5 (.t 18))⟩,
        ⟨(some 20), none, .op (.load false 1 (.t 19) false)⟩,
        ⟨(some 21), none, .op (.cvi .u8 (.t 20))⟩,
        ⟨(some 5), none, .op (.mv (.t 21) true)⟩]) <|
      .seq (.seq (.reg [⟨(some 22), none, .op (.fa 1 (.t 3))⟩,
        ⟨(some 23), none, .op (.fa 0 (.t 22))⟩,
        ⟨(some 24), none, .op (.load false 1 (.t 23) false)⟩]) <|
      .cond (.t 24) (.reg [⟨(some 25), none, .op (.mv (.t 5) false)⟩,
          ⟨(some 26), none, .op (.bin .add (.t 25) (.c (.d (.int .u8 32))))⟩,
          ⟨(some 5), none, .op (.mv (.t 26) true)⟩]) (.skip)) <|
      .seq (.reg [⟨(some 27), none, .op (.fa 1 (.t 3))⟩,
        ⟨(some 28), none, .op (.fa 1 (.t 27))⟩,
        ⟨(some 29), none, .op (.load true 4 (.t 28) false)⟩,
        ⟨(some 30), none, .call 58 [(.t 29)] none⟩,
        ⟨(some 6), none, .op (.mv (.t 30) true)⟩]) <|
      .seq (.reg [⟨(some 31), none, .op (.mv (.t 0) true)⟩,
        ⟨(some 32), none, .op (.mv (.t 5) false)⟩,
        ⟨(some 33), none, .op (.mv (.t 6) false)⟩,
        ⟨(some 34), none, .op (.len (.t 33))⟩,
        ⟨(some 35), none, .op (.cvi .u8 (.t 34))⟩,
        ⟨(some 36), none, .op (.bslc 1 2 [.int .u8 0] [(0, 1, (.t 32)), (1, 1, (.t 35))])⟩,
        ⟨(some 37), none, .op (.app 1 1 (.t 31) (.t 36))⟩,
        ⟨(some 0), none, .op (.mv (.t 37) true)⟩]) <|
      .reg [⟨(some 38), none, .op (.mv (.t 0) true)⟩,
        ⟨(some 39), none, .op (.mv (.t 6) false)⟩,
        ⟨(some 40), none, .op (.app 1 1 (.t 38) (.t 39))⟩,
        ⟨(some 0), none, .op (.mv (.t 40) true)⟩]) (.seq (.reg [⟨(some 42), none, .op (.bin .eql (.t 15) (.c (.d (.int .i64 2))))⟩,
        ⟨(some 41), none, .op (.mv (.t 42) true)⟩]) <|
      .cond (.t 41) (.seq (.reg [⟨(some 7), none, .op (.mv (.c (.d (.int .u8 0))) true)⟩]) <|
        .seq (.seq (.reg [⟨(some 43), none, .op (.fa 7 (.t 3))⟩,
          ⟨(some 44), none, .op (.load false 1 (.t 43) false)⟩]) <|
        .cond (.t 44) (.reg [⟨(some 7), none, .op (.mv (.c (.d (.int .u8 1))) true)⟩]) (.skip)) <|
        .reg [⟨(some 45), none, .op (.mv (.t 0) true)⟩,
          ⟨(some 46), none, .op (.mv (.t 7) false)⟩,
          ⟨(some 47), none, .op (.bslc 1 1 [.int .u8 0] [(0, 1, (.t 46))])⟩,
          ⟨(some 48), none, .op (.app 1 1 (.t 45) (.t 47))⟩,
          ⟨(some 0), none, .op (.mv (.t 48) true)⟩]) (.seq (.reg [⟨(some 50), none, .op (.bin .eql (.t 15) (.c (.d (.int .i64 3))))⟩,
          ⟨(some 49), none, .op (.mv (.t 50) true)⟩]) <|
        .cond (.t 49) (.seq (.reg [⟨(some 51), none, .op (.mv (.t 0) true)⟩,
            ⟨(some 52), none, .op (.fa 8 (.t 3))⟩,
            ⟨(some 53), none, .op (.load false 1 (.t 52) false)⟩,
            ⟨(some 54), none, .op (.lenS (.t 53))⟩,
            ⟨(some 55), none, .op (.cvi .u8 (.t 54))⟩,
            ⟨(some 56), none, .op (.bslc 1 1 [.int .u8 0] [(0, 1, (.t 55))])⟩,
            ⟨(some 57), none, .op (.app 1 1 (.t 51) (.t 56))⟩,
            ⟨(some 0), none, .op (.mv (.t 57) true)⟩]) <|
          .reg [⟨(some 58), none, .op (.mv (.t 0) true)⟩,
            ⟨(some 59), none, .op (.fa 8 (.t 3))⟩,
            ⟨(some 60), none, .op (.load false 1 (.t 59) false)⟩,
            ⟨(some 61), none, .op (.app 1 1 (.t 58) (.t 60))⟩,
            ⟨(some 0), none, .op (.mv (.t 61) true)⟩]) (.seq (.reg [⟨(some 63), none, .op (.bin .eql (.t 15) (.c (.d (.int .i64 4))))⟩,
            ⟨(some 62), none, .op (.mv (.t 63) true)⟩]) <|
          .cond (.t 62) (.reg [⟨(some 64), none, .op (.mv (.t 0) true)⟩,
              ⟨(some 65), none, .op (.fa 9 (.t 3))⟩,
              ⟨(some 66), none, .op (.load false 1 (.t 65) false)⟩,
              ⟨(some 67), none, .op (.cvi .u8 (.t 66))⟩,
              ⟨(some 68), none, .op (.bslc 1 1 [.int .u8 0] [(0, 1, (.t 67))])⟩,
              ⟨(some 69), none, .op (.app 1 1 (.t 64) (.t 68))⟩,
              ⟨(some 0), none, .op (.mv (.t 69) true)⟩]) (.skip)))))) <|
  .seq (.reg [⟨(some 70), none, .op (.mv (.t 0) true)⟩,
    ⟨(some 4), none, .op (.mv (.t 70) true)⟩]) <|
  .ret
theorem k39 : Tryd.f39.body.bind (comp Tryd.prog [(1000070, 0)] Tryd.f39.ntmps) = some c39 := by kernel_rfl
theorem r39 : cRes Tryd.prog Tryd.f39.results.toList = some [.t 4] := by kernel_rfl

theorem or_add {s : Int} (h : 0 ≤ s ∧ s ≤ 18) : IntKind.u8.wrap (IntKind.u8.wrap s + 32) = ibits .or .u8 (u8 s) 32 := by
  have : ∀ n : Fin 19, IntKind.u8.wrap (IntKind.u8.wrap ((n.1 : Nat) : Int) + 32) = ibits .or .u8 (u8 ((n.1 : Nat) : Int)) 32 := by decide
  have := this ⟨s.toNat, by omega⟩
  rw [show ((s.toNat : Nat) : Int) = s by omega] at this
  exact this

theorem cs_oneV {b : List Int} {kind neg n0 n1 n2 n3 scale flag text err} (hs : kind = 1 → 0 ≤ scale ∧ scale ≤ 18)
    (hr : b.length + (packV ⟨kind, neg, n0, n1, n2, n3, scale, flag, text, err⟩).length ≤ roomB) {R : Out → Prop}
    (h : R (.ret [.d (.sl 1 (bys (b ++ packV ⟨kind, neg, n0, n1, n2, n3, scale, flag, text, err⟩)))] [] [(.t 0, 1)])) :
    CS Tryd.prog 39 [.d (.sl 1 (bys b)), .agg (encAV ⟨kind, neg, n0, n1, n2, n3, scale, flag, text, err⟩)] [] [(.t 0, 1)] R := by
  refine CS.go Tryd.func39 k39 r39 (by kernel_rfl) ?_
  unfold c39
  unfold roomB at hr
  have p0 : (packV ⟨kind, neg, n0, n1, n2, n3, scale, flag, text, err⟩).length ≥ 1 := by simp [packV]
  have e1 : ∀ (b : List Int) (x : Int), bys b ++ [[D.int .u8 x]] = bys (b ++ [x]) := fun b x => by rw [bys_app]; rfl
  have e2 : ∀ (b : List Int) (x y : Int), bys b ++ [[D.int .u8 x], [D.int .u8 y]] = bys (b ++ [x, y]) := fun b x y => by rw [bys_app]; rfl
  simp (maxSteps := 10000000) -dsimp only [go_sem, simprocAttr, encAV]
  refine kImp_intro (fun _ => ?_)
  simp (maxSteps := 10000000) -dsimp only [go_sem, simprocAttr]
  refine kAnd_intro (by omega) ?_
  simp (maxSteps := 10000000) -dsimp only [go_sem, simprocAttr]
  refine kAnd_intro (by omega) ?_
  simp (maxSteps := 10000000) -dsimp only [go_sem, simprocAttr, e1]
  refine kIf_intro (fun h1 => ?_) (fun h1 => ?_)
  · have h1 : kind = 1 := by simpa using h1
    subst h1
    have hs := hs rfl
    have hd := digits_len (n0 := n0) (n1 := n1) (n2 := n2) (n3 := n3)
    simp (maxSteps := 10000000) -dsimp only [go_sem, simprocAttr]
    refine kIf_intro (fun h2 => ?_) (fun h2 => ?_)
    · subst h2
      simp only [packV, if_true] at hr h
      simp only [List.length_cons] at hr
      simp (maxSteps := 10000000) -dsimp only [go_sem, simprocAttr, or_add hs]
      refine kCS_intro (cs_natural ?_)
      simp (maxSteps := 10000000) -dsimp only [go_sem, simprocAttr]
      refine kImp_intro (fun _ => ?_)
      simp (maxSteps := 10000000) -dsimp only [go_sem, simprocAttr]
      refine kImp_intro (fun _ => ?_)
      simp (maxSteps := 10000000) -dsimp only [go_sem, simprocAttr]
      refine kAnd_intro (by omega) ?_
      simp (maxSteps := 10000000) -dsimp only [go_sem, simprocAttr]
      refine kAnd_intro (by omega) ?_
      simp (maxSteps := 10000000) -dsimp only [go_sem, simprocAttr, e2]
      refine kImp_intro (fun _ => ?_)
      simp (maxSteps := 10000000) -dsimp only [go_sem, simprocAttr]
      refine kImp_intro (fun _ => ?_)
      simp (maxSteps := 10000000) -dsimp only [go_sem, simprocAttr]
      refine kAnd_intro (by omega) ?_
      simp (maxSteps := 10000000) -dsimp only [go_sem, simprocAttr]
      refine kAnd_intro (by omega) ?_
      simp (maxSteps := 10000000) -dsimp only [go_sem, simprocAttr]
      rw [← bys_app]
      simpa [u8] using h
    · have h2 : neg = false := h2
      subst h2
      simp only [packV, if_true, Bool.false_eq_true, if_false] at hr h
      simp only [List.length_cons] at hr
      simp (maxSteps := 10000000) -dsimp only [go_sem, simprocAttr]
      refine kCS_intro (cs_natural ?_)
      simp (maxSteps := 10000000) -dsimp only [go_sem, simprocAttr]
      refine kImp_intro (fun _ => ?_)
      simp (maxSteps := 10000000) -dsimp only [go_sem, simprocAttr]
      refine kImp_intro (fun _ => ?_)
      simp (maxSteps := 10000000) -dsimp only [go_sem, simprocAttr]
      refine kAnd_intro (by omega) ?_
      simp (maxSteps := 10000000) -dsimp only [go_sem, simprocAttr]
      refine kAnd_intro (by omega) ?_
      simp (maxSteps := 10000000) -dsimp only [go_sem, simprocAttr, e2]
      refine kImp_intro (fun _ => ?_)
      simp (maxSteps := 10000000) -dsimp only [go_sem, simprocAttr]
      refine kImp_intro (fun _ => ?_)
      simp (maxSteps := 10000000) -dsimp only [go_sem, simprocAttr]
      refine kAnd_intro (by omega) ?_
      simp (maxSteps := 10000000) -dsimp only [go_sem, simprocAttr]
      refine kAnd_intro (by omega) ?_
      simp (maxSteps := 10000000) -dsimp only [go_sem, simprocAttr]
      rw [← bys_app]
      simpa [u8] using h
  have h1 : kind ≠ 1 := by simpa using h1
  simp (maxSteps := 10000000) -dsimp only [go_sem, simprocAttr]
  refine kIf_intro (fun h2 => ?_) (fun h2 => ?_)
  · have h2 : kind = 2 := by simpa using h2
    subst h2
    have hp : packV ⟨2, neg, n0, n1, n2, n3, scale, flag, text, err⟩ = [u8 2, if flag = true then 1 else 0] := by simp [packV]
    rw [hp] at hr h
    simp only [List.length_cons, List.length_nil] at hr
    simp (maxSteps := 10000000) -dsimp only [go_sem, simprocAttr]
    refine kIf_intro (fun h3 => ?_) (fun h3 => ?_)
    · subst h3
      simp (maxSteps := 10000000) -dsimp only [go_sem, simprocAttr]
      refine kImp_intro (fun _ => ?_)
      simp (maxSteps := 10000000) -dsimp only [go_sem, simprocAttr]
      refine kAnd_intro (by omega) ?_
      simp (maxSteps := 10000000) -dsimp only [go_sem, simprocAttr]
      refine kAnd_intro (by omega) ?_
      simp (maxSteps := 10000000) -dsimp only [go_sem, simprocAttr, e1]
      simpa [u8] using h
    · have h3 : flag = false := h3
      subst h3
      simp (maxSteps := 10000000) -dsimp only [go_sem, simprocAttr]
      refine kImp_intro (fun _ => ?_)
      simp (maxSteps := 10000000) -dsimp only [go_sem, simprocAttr]
      refine kAnd_intro (by omega) ?_
      simp (maxSteps := 10000000) -dsimp only [go_sem, simprocAttr]
      refine kAnd_intro (by omega) ?_
      simp (maxSteps := 10000000) -dsimp only [go_sem, simprocAttr, e1]
      simpa [u8] using h
  have h2 : kind ≠ 2 := by simpa using h2
  simp (maxSteps := 10000000) -dsimp only [go_sem, simprocAttr]
  refine kIf_intro (fun h3 => ?_) (fun h3 => ?_)
  · have h3 : kind = 3 := by simpa using h3
    subst h3
    have hp : packV ⟨3, neg, n0, n1, n2, n3, scale, flag, text, err⟩ = u8 3 :: u8 text.length :: txt text := by simp [packV]
    rw [hp] at hr h
    have hlt : (txt text).length = text.length := by simp [txt]
    simp only [List.length_cons, hlt] at hr
    simp (maxSteps := 10000000) -dsimp only [go_sem, simprocAttr]
    refine kImp_intro (fun _ => ?_)
    simp (maxSteps := 10000000) -dsimp only [go_sem, simprocAttr]
    refine kImp_intro (fun _ => ?_)
    simp (maxSteps := 10000000) -dsimp only [go_sem, simprocAttr]
    refine kAnd_intro (by omega) ?_
    simp (maxSteps := 10000000) -dsimp only [go_sem, simprocAttr]
    refine kAnd_intro (by omega) ?_
    simp (maxSteps := 10000000) -dsimp only [go_sem, simprocAttr, e1]
    refine kImp_intro (fun _ => ?_)
    simp (maxSteps := 10000000) -dsimp only [go_sem, simprocAttr]
    refine kImp_intro (fun _ => ?_)
    simp (maxSteps := 10000000) -dsimp only [go_sem, simprocAttr]
    refine kAnd_intro (by omega) ?_
    simp (maxSteps := 10000000) -dsimp only [go_sem, simprocAttr]
    refine kAnd_intro (by omega) ?_
    simp (maxSteps := 10000000) -dsimp only [go_sem, simprocAttr, bys_txt]
    rw [← bys_app]
    simpa [u8] using h
  have h3 : kind ≠ 3 := by simpa using h3
  simp (maxSteps := 10000000) -dsimp only [go_sem, simprocAttr]
  refine kIf_intro (fun h4 => ?_) (fun h4 => ?_)
  · have h4 : kind = 4 := by simpa using h4
    subst h4
    have hp : packV ⟨4, neg, n0, n1, n2, n3, scale, flag, text, err⟩ = [u8 4, u8 err] := by simp [packV]
    rw [hp] at hr h
    simp only [List.length_cons, List.length_nil] at hr
    simp (maxSteps := 10000000) -dsimp only [go_sem, simprocAttr]
    refine kImp_intro (fun _ => ?_)
    simp (maxSteps := 10000000) -dsimp only [go_sem, simprocAttr]
    refine kAnd_intro (by omega) ?_
    simp (maxSteps := 10000000) -dsimp only [go_sem, simprocAttr]
    refine kAnd_intro (by omega) ?_
    simp (maxSteps := 10000000) -dsimp only [go_sem, simprocAttr, e1]
    simpa [u8] using h
  have h4 : kind ≠ 4 := by simpa using h4
  simp (maxSteps := 10000000) -dsimp only [go_sem, simprocAttr]
  simpa [packV, u8, h1, h2, h3, h4] using h

end Go.Vx

/- A row's bytes by the document. -/
namespace Go.Vx
set_option linter.unusedVariables false
set_option linter.unusedSimpArgs false
open Go Go.Proofs
set_option linter.unusedSimpArgs false
set_option linter.unusedVariables false
set_option maxRecDepth 10000
set_option maxHeartbeats 4000000

theorem okV_scale {v : Val} (h : okV v = true) (hk : v.kind = 1) : 0 ≤ v.scale ∧ v.scale ≤ 18 := by
  unfold okV at h
  rw [hk] at h
  simp [decBad] at h
  omega

theorem len_app1 {b : List Int} {x : Int} {c T : List Int} (h : b ++ x :: c = T) : b.length + 1 + c.length = T.length := by rw [← h]; simp; omega
theorem len_app {b c T : List Int} (h : b ++ c = T) : b.length + c.length = T.length := by rw [← h]; simp
theorem bys_one (b : List Int) (x : Int) : bys b ++ [[D.int .u8 x]] = bys (b ++ [x]) := by rw [bys_app]; rfl
theorem bys_two (b : List Int) (x y : Int) : bys b ++ [[D.int .u8 x], [D.int .u8 y]] = bys (b ++ [x, y]) := by rw [bys_app]; rfl

def PutCs (f : Fil) : Prop := ∀ (a : Nat) (b : List Int) (R : Out → Prop), mayF f a = true → (b ++ packF f).length ≤ roomB → R (.ret [.d (.sl 1 (bys (b ++ packF f)))] [] [(.t 0, 1)]) →
  CS Tryd.prog 25 [.d (.sl 1 (bys b)), .agg ((encF f).map .d)] [] [(.t 0, 1)] R

/-- excise/exciseref25.put -/
def c25 : AC :=
  .seq (.reg [⟨(some 3), none, .op (.box 3 (.t 1))⟩,
    ⟨(some 4), none, .op (.nil 1)⟩]) <|
  .seq (.reg [⟨(some 10), none, .op (.mv (.t 0) true)⟩,
    ⟨(some 11), none, .op (.fa 0 (.t 3))⟩,
    ⟨(some 12), none, .op (.load false 1 (.t 11) false)⟩,
    ⟨(some 13), none, .op (.len (.t 12))⟩,
    ⟨(some 14), none, .op (.cvi .u8 (.t 13))⟩,
    ⟨(some 15), none, .op (.bslc 1 1 [.int .u8 0] [(0, 1, (.t 14))])⟩,
    ⟨(some 16), none, .op (.app 1 1 (.t 10) (.t 15))⟩,
    ⟨(some 0), none, .op (.mv (.t 16) true)⟩]) <|
  .seq (.seq (.reg [⟨(some 5), none, .op (.mv (.c (.d (.int .i64 0))) true)⟩]) <|
  .block 0 (
    .loop (
      .seq (.seq (.reg [⟨(some 17), none, .op (.mv (.t 5) false)⟩,
        ⟨(some 18), none, .op (.fa 0 (.t 3))⟩,
        ⟨(some 19), none, .op (.load false 1 (.t 18) false)⟩,
        ⟨(some 20), none, .op (.len (.t 19))⟩,
        ⟨(some 21), none, .op (.bin .lss (.t 17) (.t 20))⟩]) <|
      .cond (.t 21) (.skip) (.exit 0)) <|
      .seq (.block 1 (
        .reg [⟨(some 24), none, .op (.mv (.t 0) true)⟩,
          ⟨(some 25), none, .op (.fa 0 (.t 3))⟩,
          ⟨(some 26), none, .op (.load false 1 (.t 25) false)⟩,
          ⟨(some 27), none, .op (.mv (.t 5) false)⟩,
          ⟨(some 28), none, .op (.ixs 10 (.t 26) (.t 27))⟩,
          ⟨(some 29), none, .op (.load true 10 (.t 28) false)⟩,
          ⟨(some 30), none, .call 39 [(.t 24), (.t 29)] (some 0)⟩,
          ⟨(some 0), none, .op (.mv (.t 30) true)⟩])) <|
      .reg [⟨(some 22), none, .op (.mv (.t 5) false)⟩,
        ⟨(some 23), none, .op (.bin .add (.t 22) (.c (.d (.int .i64 1))))⟩,
        ⟨(some 5), none, .op (.mv (.t 23) true)⟩]))) <|
  .seq (.reg [⟨(some 31), none, .op (.mv (.t 0) true)⟩,
    ⟨(some 32), none, .op (.fa 1 (.t 3))⟩,
    ⟨(some 33), none, .op (.load false 1 (.t 32) false)⟩,
    ⟨(some 34), none, .op (.len (.t 33))⟩,
    ⟨(some 35), none, .op (.cvi .u8 (.t 34))⟩,
    ⟨(some 36), none, .op (.bslc 1 1 [.int .u8 0] [(0, 1, (.t 35))])⟩,
    ⟨(some 37), none, .op (.app 1 1 (.t 31) (.t 36))⟩,
    ⟨(some 0), none, .op (.mv (.t 37) true)⟩]) <|
  .seq (.seq (.reg [⟨(some 6), none, .op (.mv (.c (.d (.int .i64 0))) true)⟩]) <|
  .block 2 (
    .loop (
      .seq (.seq (.reg [⟨(some 38), none, .op (.mv (.t 6) false)⟩,
        ⟨(some 39), none, .op (.fa 1 (.t 3))⟩,
        ⟨(some 40), none, .op (.load false 1 (.t 39) false)⟩,
        ⟨(some 41), none, .op (.len (.t 40))⟩,
        ⟨(some 42), none, .op (.bin .lss (.t 38) (.t 41))⟩]) <|
      .cond (.t 42) (.skip) (.exit 2)) <|
      .seq (.block 3 (
        .reg [⟨(some 45), none, .op (.mv (.t 0) true)⟩,
          ⟨(some 46), none, .op (.fa 1 (.t 3))⟩,
          ⟨(some 47), none, .op (.load false 1 (.t 46) false)⟩,
          ⟨(some 48), none, .op (.mv (.t 6) false)⟩,
          ⟨(some 49), none, .op (.ixs 10 (.t 47) (.t 48))⟩,
          ⟨(some 50), none, .op (.load true 10 (.t 49) false)⟩,
          ⟨(some 51), none, .call 39 [(.t 45), (.t 50)] (some 0)⟩,
          ⟨(some 0), none, .op (.mv (.t 51) true)⟩])) <|
      .reg [⟨(some 43), none, .op (.mv (.t 6) false)⟩,
        ⟨(some 44), none, .op (.bin .add (.t 43) (.c (.d (.int .i64 1))))⟩,
        ⟨(some 6), none, .op (.mv (.t 44) true)⟩]))) <|
  .seq (.reg [⟨(some 52), none, .op (.mv (.t 0) true)⟩,
    ⟨(some 53), none, .op (.fa 2 (.t 3))⟩,
    ⟨(some 54), none, .op (.load false 1 (.t 53) false)⟩,
    ⟨(some 55), none, .op (.len (.t 54))⟩,
    ⟨(some 56), none, .op (.cvi .u8 (.t 55))⟩,
    ⟨(some 57), none, .op (.bslc 1 1 [.int .u8 0] [(0, 1, (.t 56))])⟩,
    ⟨(some 58), none, .op (.app 1 1 (.t 52) (.t 57))⟩,
    ⟨(some 0), none, .op (.mv (.t 58) true)⟩]) <|
  .seq (.seq (.reg [⟨(some 7), none, .op (.mv (.c (.d (.int .i64 0))) true)⟩]) <|
  .block 4 (
    .loop (
      .seq (.seq (.reg [⟨(some 59), none, .op (.mv (.t 7) false)⟩,
        ⟨(some 60), none, .op (.fa 2 (.t 3))⟩,
        ⟨(some 61), none, .op (.load false 1 (.t 60) false)⟩,
        ⟨(some 62), none, .op (.len (.t 61))⟩,
        ⟨(some 63), none, .op (.bin .lss (.t 59) (.t 62))⟩]) <|
      .cond (.t 63) (.skip) (.exit 4)) <|
      .seq (.block 5 (
        .seq (.reg [⟨(some 66), none, .op (.fa 2 (.t 3))⟩,
          ⟨(some 67), none, .op (.load false 1 (.t 66) false)⟩,
          ⟨(some 68), none, .op (.mv (.t 7) false)⟩,
          ⟨(some 69), none, .op (.ixs 1 (.t 67) (.t 68))⟩,
          ⟨(some 70), none, .op (.load false 1 (.t 69) false)⟩,
          ⟨(some 71), none, .op (.len (.t 70))⟩,
          ⟨(some 8), none, .op (.mv (.t 71) true)⟩]) <|
        .seq (.reg [⟨(some 72), none, .op (.mv (.t 0) true)⟩,
          ⟨(some 73), none, .op (.mv (.t 8) false)⟩,
          ⟨(some 74), none, .op (.bin .quo (.t 73) (.c (.d (.int .i64 256))))⟩,
          ⟨(some 75), none, .op (.cvi .u8 (.t 74))⟩,
          ⟨(some 76), none, .op (.mv (.t 8) false)⟩,
          ⟨(some 77), none, .op (.bin .rem (.t 76) (.c (.d (.int .i64 256))))⟩,
          ⟨(some 78), none, .op (.cvi .u8 (.t 77))⟩,
          ⟨(some 79), none, .op (.bslc 1 2 [.int .u8 0] [(0, 1, (.t 75)), (1, 1, (.t 78))])⟩,
          ⟨(some 80), none, .op (.app 1 1 (.t 72) (.t 79))⟩,
          ⟨(some 0), none, .op (.mv (.t 80) true)⟩]) <|
        .seq (.reg [⟨(some 9), none, .op (.mv (.c (.d (.int .i64 0))) true)⟩]) <|
        .block 6 (
          .loop (
            .seq (.seq (.reg [⟨(some 81), none, .op (.mv (.t 9) false)⟩,
              ⟨(some 82), none, .op (.mv (.t 8) false)⟩,
              ⟨(some 83), none, .op (.bin .lss (.t 81) (.t 82))⟩]) <|
            .cond (.t 83) (.skip) (.exit 6)) <|
            .seq (.block 7 (
              .reg [⟨(some 86), none, .op (.mv (.t 0) true)⟩,
                ⟨(some 87), none, .op (.fa 2 (.t 3))⟩,
                ⟨(some 88), none, .op (.load false 1 (.t 87) false)⟩,
                ⟨(some 89), none, .op (.mv (.t 7) false)⟩,
                ⟨(some 90), none, .op (.ixs 1 (.t 88) (.t 89))⟩,
                ⟨(some 91), none, .op (.load false 1 (.t 90) false)⟩,
                ⟨(some 92), none, .op (.mv (.t 9) false)⟩,
                ⟨(some 93), none, .op (.ixs 3 (.t 91) (.t 92))⟩,
                ⟨(some 94), none, .op (.load true 3 (.t 93) false)⟩,
                ⟨(some 95), none, .call 25 [(.t 86), (.t 94)] (some 0)⟩,
                ⟨(some 0), none, .op (.mv (.t 95) true)⟩])) <|
            .reg [⟨(some 84), none, .op (.mv (.t 9) false)⟩,
              ⟨(some 85), none, .op (.bin .add (.t 84) (.c (.d (.int .i64 1))))⟩,
              ⟨(some 9), none, .op (.mv (.t 85) true)⟩])))) <|
      .reg [⟨(some 64), none, .op (.mv (.t 7) false)⟩,
        ⟨(some 65), none, .op (.bin .add (.t 64) (.c (.d (.int .i64 1))))⟩,
        ⟨(some 7), none, .op (.mv (.t 65) true)⟩]))) <|
  .seq (.reg [⟨(some 96), none, .op (.mv (.t 0) true)⟩,
    ⟨(some 4), none, .op (.mv (.t 96) true)⟩]) <|
  .ret
theorem k25 : Tryd.f25.body.bind (comp Tryd.prog [(39, 0), (25, 0), (1000096, 0)] Tryd.f25.ntmps) = some c25 := by kernel_rfl
theorem r25 : cRes Tryd.prog Tryd.f25.results.toList = some [.t 4] := by kernel_rfl

theorem cs_put' : ∀ f : Fil, PutCs f := by
  refine Fil.ind (fun v l k ih => ?_)
  intro a b R hmay hr h
  simp only [mayF, Bool.and_eq_true, decide_eq_true_eq, Bool.not_eq_true'] at hmay
  obtain ⟨⟨⟨⟨_, hbv⟩, hbl⟩, hk16⟩, hmk⟩ := hmay
  have hv := (badL_len hbv).2.2
  have hvl := (badL_len hbv).2.1
  have hl := (badL_len hbl).2.2
  have hll := (badL_len hbl).2.1
  generalize hT : b ++ packF (.mk v l k) = T at hr h
  rw [packF] at hT
  simp only [List.append_assoc, List.cons_append] at hT
  have hT0 := len_app1 hT
  refine CS.go Tryd.func25 k25 r25 (by kernel_rfl) ?_
  unfold c25
  unfold roomB at hr
  (simp (maxSteps := 10000000) -dsimp only [go_sem, simprocAttr, encF, bys_one]; repeat ((first | (refine kAnd_intro (by omega) ?_) | (refine kImp_intro (fun _ => ?_))); try simp (maxSteps := 10000000) -dsimp only [go_sem, simprocAttr, encF, bys_one]))
  refine kLoop_intro (loop_rule (ι := { p : Nat × List Int // p.1 ≤ v.length ∧ p.2 ++ ((v.drop p.1).flatMap packV ++ (u8 l.length :: (l.flatMap packV ++ u8 k.length :: packK k))) = T })
    (fun p => ⟨Tryd.f25.ntmps, 1000, [(5, .d (.int .i64 p.1.1)), (3, .ptr 1003 0), (0, .d (.sl 1 (bys p.1.2)))],
      [(1003, [.d (.sl 10 (v.map encV)), .d (.sl 10 (l.map encV)), .d (.sl 1 (encK k))])], [(.t 0, 1)]⟩) (fun p => v.length - p.1.1) ⟨(0, b ++ [u8 v.length]), by omega, by simpa using hT⟩ ?_ (fun _ => ⟨rfl, rfl⟩) ?_)
  · refine weak_mk ?_ ?_ ?_ ?_ ?_ <;> simp (maxSteps := 10000000) -dsimp only [go_sem, simprocAttr]
    try rfl
  rintro ⟨⟨i, c⟩, hi, hc⟩
  simp only at hi hc
  (simp (maxSteps := 10000000) -dsimp only [go_sem, simprocAttr]; repeat ((first | (refine kAnd_intro (by omega) ?_) | (refine kImp_intro (fun _ => ?_))); try simp (maxSteps := 10000000) -dsimp only [go_sem, simprocAttr]))
  refine kIf_intro (fun h1 => ?_) (fun h1 => ?_)
  · have hlt : i < v.length := by simpa using h1
    obtain ⟨x, hx⟩ : ∃ x, v[i]? = some x := ⟨_, List.getElem?_eq_getElem hlt⟩
    have hox := List.all_eq_true.1 hv x (List.mem_of_getElem? hx)
    rw [drop_cons hx, List.flatMap_cons] at hc
    simp only [List.append_assoc] at hc
    have hc0 := len_app hc
    rw [List.length_append] at hc0
    (simp (maxSteps := 10000000) -dsimp only [go_sem, simprocAttr, getD_enc hx, encV]; repeat ((first | (refine kAnd_intro (by omega) ?_) | (refine kImp_intro (fun _ => ?_))); try simp (maxSteps := 10000000) -dsimp only [go_sem, simprocAttr, getD_enc hx, encV]))
    refine kCS_intro (cs_oneV (okV_scale hox) (by unfold roomB; show c.length + (packV x).length ≤ _; omega) ?_)
    simp (maxSteps := 10000000) -dsimp only [go_sem, simprocAttr]
    refine ⟨⟨(i + 1, c ++ packV x), hlt, by simpa using hc⟩, by show _ - (i + 1) < _ - i; omega, ?_⟩
    refine weak_mk ?_ ?_ ?_ ?_ ?_ <;> simp (maxSteps := 10000000) -dsimp only [go_sem, simprocAttr]
    rw [wrap_i64 (by omega) (by omega)]
    try first | rfl | exact ⟨rfl, rfl⟩
  have : i = v.length := by
    have : ¬ (i : Int) < v.length := by simpa using h1
    omega
  subst this
  rw [List.drop_length, List.flatMap_nil, List.nil_append] at hc
  have hc0 := len_app1 hc
  (simp (maxSteps := 10000000) -dsimp only [go_sem, simprocAttr, bys_one]; repeat ((first | (refine kAnd_intro (by omega) ?_) | (refine kImp_intro (fun _ => ?_))); try simp (maxSteps := 10000000) -dsimp only [go_sem, simprocAttr, bys_one]))
  refine kLoop_intro (loop_rule (ι := { p : Nat × List Int // p.1 ≤ l.length ∧ p.2 ++ ((l.drop p.1).flatMap packV ++ (u8 k.length :: packK k)) = T })
    (fun p => ⟨Tryd.f25.ntmps, 1000, [(6, .d (.int .i64 p.1.1)), (3, .ptr 1003 0), (0, .d (.sl 1 (bys p.1.2)))],
      [(1003, [.d (.sl 10 (v.map encV)), .d (.sl 10 (l.map encV)), .d (.sl 1 (encK k))])], [(.t 0, 1)]⟩) (fun p => l.length - p.1.1) ⟨(0, c ++ [u8 l.length]), by omega, by simpa using hc⟩ ?_ (fun _ => ⟨rfl, rfl⟩) ?_)
  · refine weak_mk ?_ ?_ ?_ ?_ ?_ <;> simp (maxSteps := 10000000) -dsimp only [go_sem, simprocAttr]
    try rfl
  rintro ⟨⟨i, c⟩, hi, hc⟩
  simp only at hi hc
  (simp (maxSteps := 10000000) -dsimp only [go_sem, simprocAttr]; repeat ((first | (refine kAnd_intro (by omega) ?_) | (refine kImp_intro (fun _ => ?_))); try simp (maxSteps := 10000000) -dsimp only [go_sem, simprocAttr]))
  refine kIf_intro (fun h1 => ?_) (fun h1 => ?_)
  · have hlt : i < l.length := by simpa using h1
    obtain ⟨x, hx⟩ : ∃ x, l[i]? = some x := ⟨_, List.getElem?_eq_getElem hlt⟩
    have hox := List.all_eq_true.1 hl x (List.mem_of_getElem? hx)
    rw [drop_cons hx, List.flatMap_cons] at hc
    simp only [List.append_assoc] at hc
    have hc0 := len_app hc
    rw [List.length_append] at hc0
    (simp (maxSteps := 10000000) -dsimp only [go_sem, simprocAttr, getD_enc hx, encV]; repeat ((first | (refine kAnd_intro (by omega) ?_) | (refine kImp_intro (fun _ => ?_))); try simp (maxSteps := 10000000) -dsimp only [go_sem, simprocAttr, getD_enc hx, encV]))
    refine kCS_intro (cs_oneV (okV_scale hox) (by unfold roomB; show c.length + (packV x).length ≤ _; omega) ?_)
    simp (maxSteps := 10000000) -dsimp only [go_sem, simprocAttr]
    refine ⟨⟨(i + 1, c ++ packV x), hlt, by simpa using hc⟩, by show _ - (i + 1) < _ - i; omega, ?_⟩
    refine weak_mk ?_ ?_ ?_ ?_ ?_ <;> simp (maxSteps := 10000000) -dsimp only [go_sem, simprocAttr]
    rw [wrap_i64 (by omega) (by omega)]
    try first | rfl | exact ⟨rfl, rfl⟩
  have : i = l.length := by
    have : ¬ (i : Int) < l.length := by simpa using h1
    omega
  subst this
  rw [List.drop_length, List.flatMap_nil, List.nil_append] at hc
  have hc0 := len_app1 hc
  (simp (maxSteps := 10000000) -dsimp only [go_sem, simprocAttr, bys_one]; repeat ((first | (refine kAnd_intro (by omega) ?_) | (refine kImp_intro (fun _ => ?_))); try simp (maxSteps := 10000000) -dsimp only [go_sem, simprocAttr, bys_one]))
  refine kLoop_intro (loop_rule (ι := { p : Nat × List Int // p.1 ≤ k.length ∧ p.2 ++ packK (k.drop p.1) = T })
    (fun p => ⟨Tryd.f25.ntmps, 1000, [(7, .d (.int .i64 p.1.1)), (3, .ptr 1003 0), (0, .d (.sl 1 (bys p.1.2)))],
      [(1003, [.d (.sl 10 (v.map encV)), .d (.sl 10 (l.map encV)), .d (.sl 1 (encK k))])], [(.t 0, 1)]⟩) (fun p => k.length - p.1.1) ⟨(0, c ++ [u8 k.length]), by omega, by simpa using hc⟩ ?_ (fun _ => ⟨rfl, rfl⟩) ?_)
  · refine weak_mk ?_ ?_ ?_ ?_ ?_ <;> simp (maxSteps := 10000000) -dsimp only [go_sem, simprocAttr]
    try rfl
  rintro ⟨⟨i, c⟩, hi, hc⟩
  simp only at hi hc
  (simp (maxSteps := 10000000) -dsimp only [go_sem, simprocAttr]; repeat ((first | (refine kAnd_intro (by omega) ?_) | (refine kImp_intro (fun _ => ?_))); try simp (maxSteps := 10000000) -dsimp only [go_sem, simprocAttr]))
  refine kIf_intro (fun h1 => ?_) (fun h1 => ?_)
  · have hlt : i < k.length := by simpa using h1
    obtain ⟨r, hrr⟩ : ∃ r, k[i]? = some r := ⟨_, List.getElem?_eq_getElem hlt⟩
    have hmem := List.mem_of_getElem? hrr
    rw [mayK_all, List.all_eq_true] at hmk
    have hmr := hmk r hmem
    simp only [Bool.and_eq_true, decide_eq_true_eq] at hmr
    obtain ⟨hr1024, hmr⟩ := hmr
    rw [List.all_eq_true] at hmr
    rw [drop_cons hrr, packK] at hc
    simp only [List.cons_append] at hc
    have hc0 := len_app1 hc
    simp only [List.length_cons, List.length_append] at hc0
    have q1 : IntKind.u8.wrap (((r.length : Nat) : Int).tdiv 256) = u8 ((r.length : Int).fdiv (2 ^ 8)) := by
      rw [Int.tdiv_eq_ediv_of_nonneg (by omega)]
      show u8 _ = u8 (Int.fdiv _ 256)
      rw [Int.fdiv_eq_ediv_of_nonneg _ (by omega)]
    have q2 : IntKind.u8.wrap (((r.length : Nat) : Int).tmod 256) = u8 r.length := by
      rw [Int.tmod_eq_emod_of_nonneg (by omega), u8, wrap_u8, wrap_u8]; omega
    have q3 : IntKind.i64.wrap (((r.length : Nat) : Int).tdiv 256) = ((r.length : Nat) : Int).tdiv 256 := by
      rw [Int.tdiv_eq_ediv_of_nonneg (by omega)]; exact wrap_i64 (by omega) (by omega)
    (simp (maxSteps := 10000000) -dsimp only [go_sem, simprocAttr, getD_encK hrr, q1, q2, q3, bys_two]; repeat ((first | (refine kAnd_intro (by omega) ?_) | (refine kImp_intro (fun _ => ?_))); try simp (maxSteps := 10000000) -dsimp only [go_sem, simprocAttr, getD_encK hrr, q1, q2, q3, bys_two]))
    refine kLoop_intro (loop_rule (ι := { p : Nat × List Int // p.1 ≤ r.length ∧ p.2 ++ (packR (r.drop p.1) ++ packK (k.drop (i + 1))) = T })
      (fun p => ⟨Tryd.f25.ntmps, 1000, [(9, .d (.int .i64 p.1.1)), (8, .d (.int .i64 r.length)), (7, .d (.int .i64 i)), (3, .ptr 1003 0), (0, .d (.sl 1 (bys p.1.2)))],
        [(1003, [.d (.sl 10 (v.map encV)), .d (.sl 10 (l.map encV)), .d (.sl 1 (encK k))])], [(.t 0, 1)]⟩) (fun p => r.length - p.1.1) ⟨(0, c ++ [u8 ((r.length : Int).fdiv (2 ^ 8)), u8 r.length]), by omega, by simpa using hc⟩ ?_ (fun _ => ⟨rfl, rfl⟩) ?_)
    · refine weak_mk ?_ ?_ ?_ ?_ ?_ <;> simp (maxSteps := 10000000) -dsimp only [go_sem, simprocAttr]
      try rfl
    rintro ⟨⟨q, e⟩, hq, he⟩
    simp only at hq he
    (simp (maxSteps := 10000000) -dsimp only [go_sem, simprocAttr]; repeat ((first | (refine kAnd_intro (by omega) ?_) | (refine kImp_intro (fun _ => ?_))); try simp (maxSteps := 10000000) -dsimp only [go_sem, simprocAttr]))
    refine kIf_intro (fun h3 => ?_) (fun h3 => ?_)
    · have hqt : q < r.length := by simp at h3; omega
      obtain ⟨f, hf⟩ : ∃ f, r[q]? = some f := ⟨_, List.getElem?_eq_getElem hqt⟩
      have hmf := List.mem_of_getElem? hf
      rw [drop_cons hf, packR] at he
      simp only [List.append_assoc] at he
      obtain ⟨fv, fl, fk⟩ := f
      (simp (maxSteps := 10000000) -dsimp only [go_sem, simprocAttr, getD_encK hrr, getD_encR hf, encF]; repeat ((first | (refine kAnd_intro (by omega) ?_) | (refine kImp_intro (fun _ => ?_))); try simp (maxSteps := 10000000) -dsimp only [go_sem, simprocAttr, getD_encK hrr, getD_encR hf, encF]))
      refine kCS_intro (ih r hmem _ hmf (a + 1) e _ (hmr _ hmf) (by rw [← he] at hr; simp only [List.length_append] at hr ⊢; unfold roomB; omega) ?_)
      simp (maxSteps := 10000000) -dsimp only [go_sem, simprocAttr]
      refine ⟨⟨(q + 1, e ++ packF (.mk fv fl fk)), hqt, by simpa using he⟩, by show _ - (q + 1) < _ - q; omega, ?_⟩
      refine weak_mk ?_ ?_ ?_ ?_ ?_ <;> simp (maxSteps := 10000000) -dsimp only [go_sem, simprocAttr]
      rw [wrap_i64 (by omega) (by omega)]
      try first | rfl | exact ⟨rfl, rfl⟩
    · have : q = r.length := by simp at h3; omega
      subst this
      rw [List.drop_length, packR, List.nil_append] at he
      simp (maxSteps := 10000000) -dsimp only [go_sem, simprocAttr]
      refine ⟨⟨(i + 1, e), hlt, he⟩, by show _ - (i + 1) < _ - i; omega, ?_⟩
      refine weak_mk ?_ ?_ ?_ ?_ ?_ <;> simp (maxSteps := 10000000) -dsimp only [go_sem, simprocAttr]
      rw [wrap_i64 (by omega) (by omega)]
      try first | rfl | exact ⟨rfl, rfl⟩
  · have : i = k.length := by simp at h1; omega
    subst this
    rw [List.drop_length, packK, List.append_nil] at hc
    subst hc
    simp (maxSteps := 10000000) -dsimp only [go_sem, simprocAttr]
    exact h

end Go.Vx

/- Packing by the document. -/
namespace Go.Vx
set_option linter.unusedVariables false
set_option linter.unusedSimpArgs false
open Go Go.Proofs
set_option linter.unusedSimpArgs false
set_option linter.unusedVariables false
set_option maxRecDepth 10000
set_option maxHeartbeats 4000000

theorem okL_ds {dom} : ∀ {l : List D}, okL dom (l.map A.d) = true
  | [] => rfl
  | x :: l => by rw [List.map_cons, okL, okL_ds (l := l)]; rfl

/-- excise/exciseref25.Pack -/
def c11 : AC :=
  .seq (.reg [⟨(some 1), none, .op (.box 35 (.t 0))⟩,
    ⟨(some 2), none, .op (.nil 1)⟩,
    ⟨(some 3), none, .op (.mv (.c (.d (.int .i64 0))) true)⟩]) <|
  .seq (.seq (.reg [⟨(some 9), none, .op (.load true 35 (.t 1) false)⟩,
    ⟨(some 10), none, .call 13 [(.t 9)] none⟩,
    ⟨(some 4), none, .op (.mv (.t 10) true)⟩]) <|
  .seq (.reg [⟨(some 11), none, .op (.mv (.t 4) false)⟩,
    ⟨(some 12), none, .op (.bin .neq (.t 11) (.c (.d (.int .i64 0))))⟩]) <|
  .cond (.t 12) (.seq (.reg [⟨(some 13), none, .op (.mv (.t 4) false)⟩,
      ⟨(some 2), none, .op (.nil 1)⟩,
      ⟨(some 3), none, .op (.mv (.t 13) true)⟩]) <|
    .ret) (.skip)) <|
  .seq (.reg [⟨(some 14), none, .op (.bslc 1 4 [.int .u8 0] [(0, 1, (.c (.d (.int .u8 69)))), (1, 1, (.c (.d (.int .u8 88)))), (2, 1, (.c (.d (.int .u8 67)))), (3, 1, (.c (.d (.int .u8 49))))])⟩,
    ⟨(some 5), none, .op (.mv (.t 14) true)⟩]) <|
  .seq (.seq (.reg [⟨(some 6), none, .op (.mv (.c (.d (.int .i64 0))) true)⟩]) <|
  .block 0 (
    .loop (
      .seq (.seq (.reg [⟨(some 15), none, .op (.mv (.t 6) false)⟩,
        ⟨(some 16), none, .op (.bin .lss (.t 15) (.c (.d (.int .i64 32))))⟩]) <|
      .cond (.t 16) (.skip) (.exit 0)) <|
      .seq (.block 1 (
        .reg [⟨(some 19), none, .op (.mv (.t 5) true)⟩,
          ⟨(some 20), none, .op (.mv (.t 6) false)⟩,
          ⟨(some 21), none, .op (.fa 0 (.t 1))⟩,
          ⟨(some 22), none, .op (.ixa 32 1 (.t 21) (.t 20))⟩,
          ⟨(some 23), none, .op (.load false 1 (.t 22) false)⟩,
          ⟨(some 24), none, .op (.bslc 1 1 [.int .u8 0] [(0, 1, (.t 23))])⟩,
          ⟨(some 25), none, .op (.app 1 1 (.t 19) (.t 24))⟩,
          ⟨(some 5), none, .op (.mv (.t 25) true)⟩])) <|
      .reg [⟨(some 17), none, .op (.mv (.t 6) false)⟩,
        ⟨(some 18), none, .op (.bin .add (.t 17) (.c (.d (.int .i64 1))))⟩,
        ⟨(some 6), none, .op (.mv (.t 18) true)⟩]))) <|
  .seq (.reg [⟨(some 26), none, .op (.mv (.t 5) true)⟩,
    ⟨(some 27), none, .op (.fa 32 (.t 1))⟩,
    ⟨(some 28), none, .op (.load true 3 (.t 27) false)⟩,
    ⟨(some 29), none, .call 25 [(.t 26), (.t 28)] (some 0)⟩,
    ⟨(some 5), none, .op (.mv (.t 29) true)⟩]) <|
  .seq (.seq (.reg [⟨(some 30), none, .op (.mv (.t 5) false)⟩,
    ⟨(some 31), none, .op (.len (.t 30))⟩,
    ⟨(some 32), none, .op (.bin .add (.t 31) (.c (.d (.int .i64 32))))⟩,
    ⟨(some 33), none, .op (.bin .gtr (.t 32) (.c (.d (.int .i64 4194304))))⟩]) <|
  .cond (.t 33) (.seq (.reg [⟨(some 2), none, .op (.nil 1)⟩,
      ⟨(some 3), none, .op (.mv (.c (.d (.int .i64 3))) true)⟩]) <|
    .ret) (.skip)) <|
  .seq (.reg [⟨(some 34), none, .op (.mv (.t 5) false)⟩,
    ⟨(some 35), none, .call 26 [(.t 34)] none⟩,
    ⟨(some 7), none, .op (.alloc [.d (.int .u8 0), .d (.int .u8 0), .d (.int .u8 0), .d (.int .u8 0), .d (.int .u8 0), .d (.int .u8 0), .d (.int .u8 0), .d (.int .u8 0), .d (.int .u8 0), .d (.int .u8 0), .d (.int .u8 0), .d (.int .u8 0), .d (.int .u8 0), .d (.int .u8 0), .d (.int .u8 0), .d (.int .u8 0), .d (.int .u8 0), .d (.int .u8 0), .d (.int .u8 0), .d (.int .u8 0), .d (.int .u8 0), .d (.int .u8 0), .d (.int .u8 0), .d (.int .u8 0), .d (.int .u8 0), .d (.int .u8 0), .d (.int .u8 0), .d (.int .u8 0), .d (.int .u8 0), .d (.int .u8 0), .d (.int .u8 0), .d (.int .u8 0)] [])⟩,
    ⟨none, none, .op (.store 32 (.t 7) (.t 35))⟩]) <|
  .seq (.seq (.reg [⟨(some 8), none, .op (.mv (.c (.d (.int .i64 0))) true)⟩]) <|
  .block 2 (
    .loop (
      .seq (.seq (.reg [⟨(some 36), none, .op (.mv (.t 8) false)⟩,
        ⟨(some 37), none, .op (.bin .lss (.t 36) (.c (.d (.int .i64 32))))⟩]) <|
      .cond (.t 37) (.skip) (.exit 2)) <|
      .seq (.block 3 (
        .reg [⟨(some 40), none, .op (.mv (.t 5) true)⟩,
          ⟨(some 41), none, .op (.mv (.t 8) false)⟩,
          ⟨(some 42), none, .op (.ixa 32 1 (.t 7) (.t 41))⟩,
          ⟨(some 43), none, .op (.load false 1 (.t 42) false)⟩,
          ⟨(some 44), none, .op (.bslc 1 1 [.int .u8 0] [(0, 1, (.t 43))])⟩,
          ⟨(some 45), none, .op (.app 1 1 (.t 40) (.t 44))⟩,
          ⟨(some 5), none, .op (.mv (.t 45) true)⟩])) <|
      .reg [⟨(some 38), none, .op (.mv (.t 8) false)⟩,
        ⟨(some 39), none, .op (.bin .add (.t 38) (.c (.d (.int .i64 1))))⟩,
        ⟨(some 8), none, .op (.mv (.t 39) true)⟩]))) <|
  .seq (.reg [⟨(some 46), none, .op (.mv (.t 5) true)⟩,
    ⟨(some 2), none, .op (.mv (.t 46) true)⟩,
    ⟨(some 3), none, .op (.mv (.c (.d (.int .i64 0))) true)⟩]) <|
  .ret
theorem k11 : Tryd.f11.body.bind (comp Tryd.prog [(25, 0), (1000046, 0)] Tryd.f11.ntmps) = some c11 := by kernel_rfl
theorem r11 : cRes Tryd.prog Tryd.f11.results.toList = some [.t 2, .t 3] := by kernel_rfl

theorem cs_pack' {dig : List Int} (hd : dig.length = 32) {f : Fil} {R : Out → Prop} (h : R (pakO dig f)) :
    CS Tryd.prog 11 [.agg ((dig.map (D.int .u8) ++ encF f).map .d)] [] [] R := by
  refine CS.go0 Tryd.func11 k11 r11 (by kernel_rfl) ?_
  unfold c11
  obtain ⟨v, l, k⟩ := f
  have hdr : ((dig.map (D.int .u8) ++ encF (.mk v l k)).map A.d).drop 32 = (encF (.mk v l k)).map .d := by
    rw [List.map_append]
    exact List.drop_left' (by simp [hd])
  have hlen : ((dig.map (D.int .u8) ++ encF (.mk v l k)).map A.d).length = 35 := by simp [hd, encF]
  have hget : ∀ i, i < 32 → ((dig.map (D.int .u8) ++ encF (.mk v l k)).map A.d)[i]? = some (.d (.int .u8 (dig.getD i 0))) := by
    intro i hi
    rw [List.map_append, List.getElem?_append_left (by simp [hd, hi]), map_yc]
    exact yc_get (by omega)
  generalize hcs : ((dig.map (D.int .u8) ++ encF (.mk v l k)).map A.d) = cs at hdr hlen hget
  have hren : ∀ ρ, renL ρ cs = some cs := fun ρ => by rw [← hcs]; exact renL_ds
  have hok : ∀ dom, okL dom cs = true := fun dom => by rw [← hcs]; exact okL_ds
  have hwk : wkC cs cs = True := eq_true (wkC_refl _)
  have htk : cs.take 35 = cs := List.take_of_length_le (by omega)
  simp (maxSteps := 10000000) -dsimp only [go_sem, simprocAttr, hdr, hlen, htk, hren, encF]
  have chk : ∀ R : Out → Prop, R (.ret [.d (.int .i64 (if okRet (.mk v l k) = true then 0 else 250))] [] []) → CS Tryd.prog 13 [.agg cs] [] [] R := fun R h => by rw [← hcs]; exact cs_check' hd h
  refine kCS_intro (chk _ ?_)
  cases hk : okRet (.mk v l k) with
  | false =>
    have h : R (.ret [.d (.sl 1 []), .d (.int .i64 250)] [] []) := by simpa [pakO, pakR, hk] using h
    simp (maxSteps := 10000000) -dsimp only [go_sem, simprocAttr, hk]
    exact h
  | true =>
  simp (maxSteps := 10000000) -dsimp only [go_sem, simprocAttr, hk, hren]
  refine kLoop_intro (loop_rule (ι := { i : Nat // i ≤ 32 }) (fun i => ⟨Tryd.f11.ntmps, 1000, [(6, .d (.int .i64 i.1)), (5, .d (.sl 1 (bys ([69, 88, 67, 49] ++ dig.take i.1)))), (1, .ptr 1001 0)],
    [(1001, cs)], [(.t 5, 1)]⟩) (fun i => 32 - i.1) ⟨0, by omega⟩ ?_ (fun _ => ⟨rfl, rfl⟩) ?_)
  · refine weak_mk ?_ ?_ ?_ ?_ ?_ <;> simp (maxSteps := 10000000) -dsimp only [go_sem, simprocAttr, hok, hwk]
    try rfl
  rintro ⟨i, hi⟩
  simp (maxSteps := 10000000) -dsimp only [go_sem, simprocAttr]
  refine kIf_intro (fun h1 => ?_) (fun h1 => ?_)
  · have hlt : i < 32 := by simp at h1; omega
    have hb : (dig.take i).length ≤ 32 := by simp [hd]; omega
    (simp (maxSteps := 10000000) -dsimp only [go_sem, simprocAttr, hget i hlt]; repeat ((first | (refine kAnd_intro (by omega) ?_) | (refine kImp_intro (fun _ => ?_))); try simp (maxSteps := 10000000) -dsimp only [go_sem, simprocAttr, hget i hlt]))
    refine ⟨⟨i + 1, hlt⟩, by show _ - (i + 1) < _ - i; omega, ?_⟩
    refine weak_mk ?_ ?_ ?_ ?_ ?_ <;> simp (maxSteps := 10000000) -dsimp only [go_sem, simprocAttr, hok, hwk]
    have hx : dig[i]? = some (dig.getD i 0) := by
      rw [List.getD_eq_getElem?_getD, List.getElem?_eq_getElem (by omega)]; rfl
    rw [wrap_i64 (by omega) (by omega), List.take_add_one, hx]
    refine ⟨rfl, ?_⟩
    simp [bys, bi]
  have : i = 32 := by simp at h1; omega
  subst this
  have hd32 : dig.take 32 = dig := List.take_of_length_le (by omega)
  have hB := (okRet_n hk).2.2
  have hmay := (okRet_n hk).1
  have hb0 : ([69, 88, 67, 49] ++ dig : List Int).length = 36 := by simp [hd]
  have eb : [69, 88, 67, 49] ++ dig ++ packF (.mk v l k) = bodyB dig (.mk v l k) := by simp [bodyB]
  have hbl : (bodyB dig (.mk v l k)).length = 36 + (packF (.mk v l k)).length := by rw [← eb, List.length_append, hb0]
  simp (maxSteps := 10000000) -dsimp only [go_sem, simprocAttr, hren, hdr, hlen, hd32, encF]
  refine kCS_intro (cs_put' (.mk v l k) 0 ([69, 88, 67, 49] ++ dig) _ hmay (by rw [eb, hbl]; unfold roomB; omega) ?_)
  rw [eb]
  have hf : fileB dig (.mk v l k) = bodyB dig (.mk v l k) ++ shaF (bodyB dig (.mk v l k)) := rfl
  have hS := shaF_len (b := bodyB dig (.mk v l k))
  have sm : ∀ R : Out → Prop, R (.ret [.agg (yc (shaF (bodyB dig (.mk v l k))))] [] []) → CS Tryd.prog 26 [.d (.sl 1 (bys (bodyB dig (.mk v l k))))] [] [] R := fun R h => cs_sum' (by omega) h
  generalize bodyB dig (.mk v l k) = B at sm hf hS hbl
  simp (maxSteps := 10000000) -dsimp only [go_sem, simprocAttr]
  refine kImp_intro (fun _ => ?_)
  have e1 : IntKind.i64.wrap ((B.length : Int) + 32) = (B.length : Int) + 32 := wrap_i64 (by omega) (by omega)
  simp (maxSteps := 10000000) -dsimp only [go_sem, simprocAttr, e1]
  refine kIf_intro (fun h2 => ?_) (fun h2 => ?_)
  · simp (maxSteps := 10000000) -dsimp only [go_sem, simprocAttr]
    have h : R (.ret [.d (.sl 1 []), .d (.int .i64 3)] [] []) := by
      simp only [decide_eq_true_eq] at h2
      simp only [pakO, pakR, hk, hf, if_true, List.length_append] at h
      rw [if_neg (by omega)] at h
      exact h
    exact h
  have h : R (.ret [.d (.sl 1 (bys (B ++ shaF B))), .d (.int .i64 0)] [] []) := by
    simp only [decide_eq_false_iff_not] at h2
    simp only [pakO, pakR, hk, hf, if_true, List.length_append] at h
    rw [if_pos (by omega)] at h
    exact h
  generalize shaF B = S at h hS sm
  have hS32 : S.take 32 = S := List.take_of_length_le (by omega)
  simp (maxSteps := 10000000) -dsimp only [go_sem, simprocAttr]
  refine kCS_intro (sm _ ?_)
  simp (maxSteps := 10000000) -dsimp only [go_sem, simprocAttr, hS, hS32, lay_all]
  refine kLoop_intro (loop_rule (ι := { i : Nat // i ≤ 32 }) (fun i => ⟨Tryd.f11.ntmps, 1000, [(8, .d (.int .i64 i.1)), (5, .d (.sl 1 (bys (B ++ S.take i.1)))), (7, .ptr 1007 0)],
    [(1007, yc S)], [(.t 5, 1)]⟩) (fun i => 32 - i.1) ⟨0, by omega⟩ ?_ (fun _ => ⟨rfl, rfl⟩) ?_)
  · refine weak_mk ?_ ?_ ?_ ?_ ?_ <;> simp (maxSteps := 10000000) -dsimp only [go_sem, simprocAttr]
    try rfl
    try simp
  rintro ⟨i, hi⟩
  simp (maxSteps := 10000000) -dsimp only [go_sem, simprocAttr]
  refine kIf_intro (fun h1 => ?_) (fun h1 => ?_)
  · have hlt : i < 32 := by simp at h1; omega
    have hb : (S.take i : List Int).length ≤ 32 := by simp [hS]; omega
    (simp (maxSteps := 10000000) -dsimp only [go_sem, simprocAttr, yc_get (l := S) (i := i) (by omega)]; repeat ((first | (refine kAnd_intro (by omega) ?_) | (refine kImp_intro (fun _ => ?_))); try simp (maxSteps := 10000000) -dsimp only [go_sem, simprocAttr, yc_get (l := S) (i := i) (by omega)]))
    refine ⟨⟨i + 1, hlt⟩, by show _ - (i + 1) < _ - i; omega, ?_⟩
    refine weak_mk ?_ ?_ ?_ ?_ ?_ <;> simp (maxSteps := 10000000) -dsimp only [go_sem, simprocAttr]
    have hx : S[i]? = some (S.getD i 0) := by
      rw [List.getD_eq_getElem?_getD, List.getElem?_eq_getElem (by omega)]; rfl
    rw [wrap_i64 (by omega) (by omega), List.take_add_one, hx]
    refine ⟨rfl, ?_⟩
    simp [bys, bi]
  have : i = 32 := by simp at h1; omega
  subst this
  simp (maxSteps := 10000000) -dsimp only [go_sem, simprocAttr, hS32]
  exact h

end Go.Vx

/- Whether a return can be gone through, and what that says. -/
namespace Go.Vx
set_option linter.unusedVariables false
set_option linter.unusedSimpArgs false
open Go Go.Proofs
set_option linter.unusedSimpArgs false
set_option linter.unusedVariables false
set_option maxRecDepth 10000
set_option maxHeartbeats 4000000

inductive FitP : Fil → Prop
  | mk (v l : List Val) (k : List (List Fil)) (h2 : k.length ≤ 300) (h3 : ∀ r, r ∈ k → r.length ≤ 3000) (h4 : ∀ r, r ∈ k → ∀ f, f ∈ r → FitP f) : FitP (.mk v l k)

theorem inF_of : ∀ f : Fil, FitP f → SzF f → InF f := by
  refine Fil.ind (fun v l k ih => ?_)
  intro h s
  obtain ⟨_, _, _, h2, h3, h4⟩ := h
  obtain ⟨_, _, _, s1, s2⟩ := s
  exact .mk v l k (Nat.le_trans s1 (by decide)) h2 h3 (fun r hr f hf => ih r hr f hf (h4 r hr f hf) (s2 r hr f hf))

def FitsCs2 (f : Fil) : Prop := ∀ (d : Int) (R : Out → Prop), R (.ret [.d (.bool false)] [] []) → (FitP f → R (.ret [.d (.bool true)] [] [])) →
  CS Tryd.prog 6 [.agg ((encF f).map .d), .d (.int .i64 d)] [] [] R

theorem all_take {α : Type} {p : α → Prop} {l : List α} {i : Nat} {x : α} (h : l[i]? = some x) (h1 : ∀ y, y ∈ l.take i → p y) (h2 : p x) : ∀ y, y ∈ l.take (i + 1) → p y := by
  intro y hy
  rw [List.take_add_one, h] at hy
  rcases List.mem_append.1 hy with hy | hy
  · exact h1 y hy
  · simp at hy; exact hy ▸ h2

theorem cs_fits2 : ∀ f : Fil, FitsCs2 f := by
  refine Fil.ind (fun v l k ih => ?_)
  intro d R h0 h1
  refine CS.go0 Tryd.func6 k6 r6 (by kernel_rfl) ?_
  unfold c6
  simp (maxSteps := 10000000) -dsimp only [go_sem, simprocAttr, encF]
  refine kIf_intro (fun c1 => ?_) (fun c1 => ?_)
  · simp (maxSteps := 10000000) -dsimp only [go_sem, simprocAttr]
    exact h0
  simp (maxSteps := 10000000) -dsimp only [go_sem, simprocAttr]
  refine kImp_intro (fun hl => ?_)
  simp (maxSteps := 10000000) -dsimp only [go_sem, simprocAttr]
  refine kIf_intro (fun c2 => ?_) (fun c2 => ?_)
  · simp (maxSteps := 10000000) -dsimp only [go_sem, simprocAttr]
    exact h0
  have c2 : k.length ≤ 300 := by simp at c2; omega
  simp (maxSteps := 10000000) -dsimp only [go_sem, simprocAttr]
  refine kImp_intro (fun _ => ?_)
  simp (maxSteps := 10000000) -dsimp only [go_sem, simprocAttr]
  refine kLoop_intro (loop_rule (ι := { i : Nat // i ≤ k.length ∧ ∀ r, r ∈ k.take i → r.length ≤ 3000 ∧ ∀ f, f ∈ r → FitP f })
    (fun i => ⟨Tryd.f6.ntmps, 1000, [(20, .d (.int .i64 i.1)), (19, .d (.int .i64 k.length)), (18, .d (.sl 1 (encK k))), (1, .d (.int .i64 d))], [], []⟩) (fun i => k.length - i.1) ⟨0, by omega, by simp⟩ ?_ (fun _ => ⟨rfl, rfl⟩) ?_)
  · refine weak_mk ?_ ?_ ?_ ?_ ?_ <;> simp (maxSteps := 10000000) -dsimp only [go_sem, simprocAttr]
  rintro ⟨i, hi, hall⟩
  simp (maxSteps := 10000000) -dsimp only [go_sem, simprocAttr]
  refine kIf_intro (fun h3 => ?_) (fun h3 => ?_)
  · have hlt : i < k.length := by simp at h3; omega
    obtain ⟨r, hr⟩ : ∃ r, k[i]? = some r := ⟨_, List.getElem?_eq_getElem hlt⟩
    have hmem := List.mem_of_getElem? hr
    simp (maxSteps := 10000000) -dsimp only [go_sem, simprocAttr]
    refine kAnd_intro (by omega) ?_
    simp (maxSteps := 10000000) -dsimp only [go_sem, simprocAttr, getD_encK hr]
    refine kImp_intro (fun _ => ?_)
    simp (maxSteps := 10000000) -dsimp only [go_sem, simprocAttr]
    refine kIf_intro (fun c4 => ?_) (fun c4 => ?_)
    · simp (maxSteps := 10000000) -dsimp only [go_sem, simprocAttr]
      exact h0
    have c4 : r.length ≤ 3000 := by simp at c4; omega
    simp (maxSteps := 10000000) -dsimp only [go_sem, simprocAttr]
    refine kImp_intro (fun _ => ?_)
    simp (maxSteps := 10000000) -dsimp only [go_sem, simprocAttr]
    refine kLoop_intro (loop_rule (ι := { j : Nat // j ≤ r.length ∧ ∀ f, f ∈ r.take j → FitP f })
      (fun j => ⟨Tryd.f6.ntmps, 1000, [(29, .d (.int .i64 j.1)), (28, .d (.int .i64 r.length)), (27, .d (.sl 3 (encR r))), (20, .d (.int .i64 i)), (19, .d (.int .i64 k.length)), (18, .d (.sl 1 (encK k))), (1, .d (.int .i64 d))], [], []⟩) (fun j => r.length - j.1) ⟨0, by omega, by simp⟩ ?_ (fun _ => ⟨rfl, rfl⟩) ?_)
    · refine weak_mk ?_ ?_ ?_ ?_ ?_ <;> simp (maxSteps := 10000000) -dsimp only [go_sem, simprocAttr]
    rintro ⟨j, hj, hallj⟩
    simp (maxSteps := 10000000) -dsimp only [go_sem, simprocAttr]
    refine kIf_intro (fun h5 => ?_) (fun h5 => ?_)
    · have hjt : j < r.length := by simp at h5; omega
      obtain ⟨f, hf⟩ : ∃ f, r[j]? = some f := ⟨_, List.getElem?_eq_getElem hjt⟩
      have hmf := List.mem_of_getElem? hf
      obtain ⟨fv, fl, fk⟩ := f
      simp (maxSteps := 10000000) -dsimp only [go_sem, simprocAttr]
      refine kAnd_intro (by omega) ?_
      simp (maxSteps := 10000000) -dsimp only [go_sem, simprocAttr, getD_encR hf, encF]
      refine kCS_intro (ih r hmem _ hmf _ _ ?_ (fun hfit => ?_))
      · simp (maxSteps := 10000000) -dsimp only [go_sem, simprocAttr]
        exact h0
      · simp (maxSteps := 10000000) -dsimp only [go_sem, simprocAttr]
        refine ⟨⟨j + 1, hjt, all_take hf hallj hfit⟩, by show _ - (j + 1) < _ - j; omega, ?_⟩
        refine weak_mk ?_ ?_ ?_ ?_ ?_ <;> simp (maxSteps := 10000000) -dsimp only [go_sem, simprocAttr]
        rw [wrap_i64 (by omega) (by omega)]
        rfl
    · have : j = r.length := by
        have : ¬ (j : Int) < r.length := by simpa using h5
        omega
      subst this
      rw [List.take_length] at hallj
      simp (maxSteps := 10000000) -dsimp only [go_sem, simprocAttr]
      refine ⟨⟨i + 1, hlt, all_take hr hall ⟨c4, hallj⟩⟩, by show _ - (i + 1) < _ - i; omega, ?_⟩
      refine weak_mk ?_ ?_ ?_ ?_ ?_ <;> simp (maxSteps := 10000000) -dsimp only [go_sem, simprocAttr]
      rw [wrap_i64 (by omega) (by omega)]
      rfl
  · have : i = k.length := by
      have : ¬ (i : Int) < k.length := by simpa using h3
      omega
    subst this
    rw [List.take_length] at hall
    simp (maxSteps := 10000000) -dsimp only [go_sem, simprocAttr]
    exact h1 (.mk v l k c2 (fun r hr => (hall r hr).1) (fun r hr => (hall r hr).2))

end Go.Vx

/- Any return's bytes: the statement's function. -/
namespace Go.Vx
set_option linter.unusedVariables false
set_option linter.unusedSimpArgs false
open Go Go.Proofs
set_option linter.unusedSimpArgs false
set_option linter.unusedVariables false
set_option maxRecDepth 10000
set_option maxHeartbeats 4000000

theorem pakR_isB {dig : List Int} {f : Fil} {B : List Int} (hd : dig.length = 32) (hb : isB dig) (hr : rngF f) (h : pakR dig f = .ok B) : isB B := (parse_pack hd hb hr h).2
/-- What packing answers: bytes and an error's number. -/
theorem pak_two {dig : List Int} {f : Fil} (hd : dig.length = 32) (hb : isB dig) (hr : rngF f) : ∃ (B : List Int) (e : Int), isB B ∧ pakO dig f = .ret [.d (.sl 1 (byt B)), .d (.int .i64 e)] [] [] := by
  cases hp : pakR dig f with
  | error e => exact ⟨[], e, (fun x hx => by cases hx), (by simp only [pakO, hp]; rfl)⟩
  | ok B => exact ⟨B, 0, pakR_isB hd hb hr hp, (by simp only [pakO, hp]; rfl)⟩

/-- excise/exciselaw25.EfilePacks -/
def c4 : AC :=
  .seq (.reg [⟨(some 2), none, .op (.box 35 (.t 0))⟩,
    ⟨(some 3), none, .op (.box 35 (.t 1))⟩,
    ⟨(some 4), none, .op (.mv (.c (.d (.bool false))) true)⟩]) <|
  .seq (.seq (.reg [⟨(some 9), none, .call 5 [] none⟩,
    ⟨(some 10), none, .op (.un .not (.t 9))⟩,
    ⟨(some 11), none, .op (.mv (.t 10) false)⟩,
    ⟨(some 12), (some (11, false)), .op (.fa 32 (.t 2))⟩,
    ⟨(some 13), (some (11, false)), .op (.load true 3 (.t 12) false)⟩,
    ⟨(some 14), (some (11, false)), .call 6 [(.t 13), (.c (.d (.int .i64 40)))] none⟩,
    ⟨(some 15), (some (11, false)), .op (.un .not (.t 14))⟩,
    ⟨(some 16), none, .op (.pick (.t 11) (.c (.d (.bool true))) (.t 15))⟩,
    ⟨(some 17), none, .op (.mv (.t 16) false)⟩,
    ⟨(some 18), (some (17, false)), .op (.fa 32 (.t 3))⟩,
    ⟨(some 19), (some (17, false)), .op (.load true 3 (.t 18) false)⟩,
    ⟨(some 20), (some (17, false)), .call 6 [(.t 19), (.c (.d (.int .i64 40)))] none⟩,
    ⟨(some 21), (some (17, false)), .op (.un .not (.t 20))⟩,
    ⟨(some 22), none, .op (.pick (.t 17) (.c (.d (.bool true))) (.t 21))⟩]) <|
  .cond (.t 22) (.seq (.reg [⟨(some 23), none, .call 5 [] none⟩,
      ⟨(some 4), none, .op (.mv (.t 23) true)⟩]) <|
    .ret) (.skip)) <|
  .seq (.reg [⟨(some 25), none, .op (.load true 35 (.t 2) false)⟩,
    ⟨(some 26), none, .call 7 [(.t 25)] none⟩,
    ⟨(some 24), none, .op (.mv (.t 26) false)⟩,
    ⟨(some 27), none, .op (.ext (.t 24) 0)⟩,
    ⟨(some 28), none, .op (.ext (.t 24) 1)⟩,
    ⟨(some 5), none, .op (.mv (.t 27) true)⟩,
    ⟨(some 6), none, .op (.mv (.t 28) true)⟩]) <|
  .seq (.reg [⟨(some 30), none, .op (.load true 35 (.t 2) false)⟩,
    ⟨(some 31), none, .call 11 [(.t 30)] none⟩,
    ⟨(some 29), none, .op (.mv (.t 31) false)⟩,
    ⟨(some 32), none, .op (.ext (.t 29) 0)⟩,
    ⟨(some 33), none, .op (.ext (.t 29) 1)⟩,
    ⟨(some 7), none, .op (.mv (.t 32) true)⟩,
    ⟨(some 8), none, .op (.mv (.t 33) true)⟩]) <|
  .seq (.draw [⟨0, ⟨(some 34), none, .op (.mv (.t 5) false)⟩, []⟩,
    ⟨1, ⟨(some 35), none, .op (.mv (.t 7) false)⟩, []⟩,
    ⟨2, ⟨(some 36), none, .call 10 [(.t 34), (.t 35)] none⟩, [0, 1]⟩,
    ⟨3, ⟨(some 37), none, .op (.mv (.t 36) false)⟩, [2, 0, 1]⟩,
    ⟨4, ⟨(some 38), (some (37, true)), .op (.mv (.t 6) false)⟩, [3, 2, 0, 1]⟩,
    ⟨5, ⟨(some 39), (some (37, true)), .op (.mv (.t 8) false)⟩, [3, 2, 0, 1]⟩,
    ⟨6, ⟨(some 40), (some (37, true)), .op (.bin .eql (.t 38) (.t 39))⟩, [4, 5, 3, 2, 0, 1]⟩,
    ⟨7, ⟨(some 41), none, .op (.pick (.t 37) (.t 40) (.c (.d (.bool false))))⟩, [6, 4, 5, 3, 2, 0, 1]⟩,
    ⟨8, ⟨(some 42), none, .op (.mv (.t 41) false)⟩, [7, 6, 4, 5, 3, 2, 0, 1]⟩,
    ⟨9, ⟨(some 43), (some (42, true)), .op (.load true 35 (.t 2) false)⟩, [8, 7, 6, 4, 5, 3, 2, 0, 1]⟩,
    ⟨10, ⟨(some 44), (some (42, true)), .call 12 [(.t 43)] none⟩, [9, 8, 7, 6, 4, 5, 3, 2, 0, 1]⟩,
    ⟨11, ⟨(some 45), (some (42, true)), .op (.load true 35 (.t 2) false)⟩, [8, 7, 6, 4, 5, 3, 2, 0, 1]⟩,
    ⟨12, ⟨(some 46), (some (42, true)), .call 13 [(.t 45)] none⟩, [11, 10, 9, 8, 7, 6, 4, 5, 3, 2, 0, 1]⟩,
    ⟨13, ⟨(some 47), (some (42, true)), .op (.bin .eql (.t 44) (.t 46))⟩, [12, 11, 10, 9, 8, 7, 6, 4, 5, 3, 2, 0, 1]⟩,
    ⟨14, ⟨(some 48), none, .op (.pick (.t 42) (.t 47) (.c (.d (.bool false))))⟩, [13, 12, 11, 10, 9, 8, 7, 6, 4, 5, 3, 2, 0, 1]⟩,
    ⟨15, ⟨(some 49), none, .op (.mv (.t 48) false)⟩, [14, 13, 12, 11, 10, 9, 8, 7, 6, 4, 5, 3, 2, 0, 1]⟩,
    ⟨16, ⟨(some 50), (some (49, true)), .op (.fa 32 (.t 2))⟩, [15, 14, 13, 12, 11, 10, 9, 8, 7, 6, 4, 5, 3, 2, 0, 1]⟩,
    ⟨17, ⟨(some 51), (some (49, true)), .op (.load true 3 (.t 50) false)⟩, [16, 15, 14, 13, 12, 11, 10, 9, 8, 7, 6, 4, 5, 3, 2, 0, 1]⟩,
    ⟨18, ⟨(some 52), (some (49, true)), .call 14 [(.t 51)] none⟩, [17, 16, 15, 14, 13, 12, 11, 10, 9, 8, 7, 6, 4, 5, 3, 2, 0, 1]⟩,
    ⟨19, ⟨(some 53), (some (49, true)), .op (.fa 32 (.t 2))⟩, [15, 14, 13, 12, 11, 10, 9, 8, 7, 6, 4, 5, 3, 2, 0, 1]⟩,
    ⟨20, ⟨(some 54), (some (49, true)), .op (.load true 3 (.t 53) false)⟩, [19, 15, 14, 13, 12, 11, 10, 9, 8, 7, 6, 4, 5, 3, 2, 0, 1]⟩,
    ⟨21, ⟨(some 55), (some (49, true)), .call 15 [(.t 54)] none⟩, [20, 19, 18, 17, 16, 15, 14, 13, 12, 11, 10, 9, 8, 7, 6, 4, 5, 3, 2, 0, 1]⟩,
    ⟨22, ⟨(some 56), (some (49, true)), .op (.bin .eql (.t 52) (.t 55))⟩, [21, 20, 19, 18, 17, 16, 15, 14, 13, 12, 11, 10, 9, 8, 7, 6, 4, 5, 3, 2, 0, 1]⟩,
    ⟨23, ⟨(some 57), none, .op (.pick (.t 49) (.t 56) (.c (.d (.bool false))))⟩, [22, 21, 20, 19, 18, 17, 16, 15, 14, 13, 12, 11, 10, 9, 8, 7, 6, 4, 5, 3, 2, 0, 1]⟩,
    ⟨24, ⟨(some 58), none, .op (.mv (.t 57) false)⟩, [23, 22, 21, 20, 19, 18, 17, 16, 15, 14, 13, 12, 11, 10, 9, 8, 7, 6, 4, 5, 3, 2, 0, 1]⟩,
    ⟨25, ⟨(some 59), (some (58, true)), .op (.load true 35 (.t 2) false)⟩, [24, 23, 22, 21, 20, 19, 18, 17, 16, 15, 14, 13, 12, 11, 10, 9, 8, 7, 6, 4, 5, 3, 2, 0, 1]⟩,
    ⟨26, ⟨(some 60), (some (58, true)), .op (.load true 35 (.t 3) false)⟩, [24, 23, 22, 21, 20, 19, 18, 17, 16, 15, 14, 13, 12, 11, 10, 9, 8, 7, 6, 4, 5, 3, 2, 0, 1]⟩,
    ⟨27, ⟨(some 61), (some (58, true)), .call 16 [(.t 59), (.t 60)] none⟩, [25, 26, 24, 23, 22, 21, 20, 19, 18, 17, 16, 15, 14, 13, 12, 11, 10, 9, 8, 7, 6, 4, 5, 3, 2, 0, 1]⟩,
    ⟨28, ⟨(some 62), (some (58, true)), .op (.load true 35 (.t 2) false)⟩, [24, 23, 22, 21, 20, 19, 18, 17, 16, 15, 14, 13, 12, 11, 10, 9, 8, 7, 6, 4, 5, 3, 2, 0, 1]⟩,
    ⟨29, ⟨(some 63), (some (58, true)), .op (.load true 35 (.t 3) false)⟩, [24, 23, 22, 21, 20, 19, 18, 17, 16, 15, 14, 13, 12, 11, 10, 9, 8, 7, 6, 4, 5, 3, 2, 0, 1]⟩,
    ⟨30, ⟨(some 64), (some (58, true)), .call 9 [(.t 62), (.t 63)] none⟩, [28, 29, 27, 25, 26, 24, 23, 22, 21, 20, 19, 18, 17, 16, 15, 14, 13, 12, 11, 10, 9, 8, 7, 6, 4, 5, 3, 2, 0, 1]⟩,
    ⟨31, ⟨(some 65), (some (58, true)), .op (.binB false (.t 61) (.t 64))⟩, [30, 28, 29, 27, 25, 26, 24, 23, 22, 21, 20, 19, 18, 17, 16, 15, 14, 13, 12, 11, 10, 9, 8, 7, 6, 4, 5, 3, 2, 0, 1]⟩,
    ⟨32, ⟨(some 66), none, .op (.pick (.t 58) (.t 65) (.c (.d (.bool false))))⟩, [31, 30, 28, 29, 27, 25, 26, 24, 23, 22, 21, 20, 19, 18, 17, 16, 15, 14, 13, 12, 11, 10, 9, 8, 7, 6, 4, 5, 3, 2, 0, 1]⟩,
    ⟨33, ⟨(some 67), none, .op (.mv (.t 66) false)⟩, [32, 31, 30, 28, 29, 27, 25, 26, 24, 23, 22, 21, 20, 19, 18, 17, 16, 15, 14, 13, 12, 11, 10, 9, 8, 7, 6, 4, 5, 3, 2, 0, 1]⟩,
    ⟨34, ⟨(some 68), (some (67, true)), .op (.load true 35 (.t 2) false)⟩, [33, 32, 31, 30, 28, 29, 27, 25, 26, 24, 23, 22, 21, 20, 19, 18, 17, 16, 15, 14, 13, 12, 11, 10, 9, 8, 7, 6, 4, 5, 3, 2, 0, 1]⟩,
    ⟨35, ⟨(some 69), (some (67, true)), .op (.load true 35 (.t 2) false)⟩, [33, 32, 31, 30, 28, 29, 27, 25, 26, 24, 23, 22, 21, 20, 19, 18, 17, 16, 15, 14, 13, 12, 11, 10, 9, 8, 7, 6, 4, 5, 3, 2, 0, 1]⟩,
    ⟨36, ⟨(some 70), (some (67, true)), .call 16 [(.t 68), (.t 69)] none⟩, [34, 35, 33, 32, 31, 30, 28, 29, 27, 25, 26, 24, 23, 22, 21, 20, 19, 18, 17, 16, 15, 14, 13, 12, 11, 10, 9, 8, 7, 6, 4, 5, 3, 2, 0, 1]⟩,
    ⟨37, ⟨(some 71), none, .op (.pick (.t 67) (.t 70) (.c (.d (.bool false))))⟩, [36, 34, 35, 33, 32, 31, 30, 28, 29, 27, 25, 26, 24, 23, 22, 21, 20, 19, 18, 17, 16, 15, 14, 13, 12, 11, 10, 9, 8, 7, 6, 4, 5, 3, 2, 0, 1]⟩,
    ⟨38, ⟨(some 72), none, .op (.mv (.t 71) false)⟩, [37, 36, 34, 35, 33, 32, 31, 30, 28, 29, 27, 25, 26, 24, 23, 22, 21, 20, 19, 18, 17, 16, 15, 14, 13, 12, 11, 10, 9, 8, 7, 6, 4, 5, 3, 2, 0, 1]⟩,
    ⟨39, ⟨(some 73), (some (72, true)), .op (.fa 32 (.t 2))⟩, [38, 37, 36, 34, 35, 33, 32, 31, 30, 28, 29, 27, 25, 26, 24, 23, 22, 21, 20, 19, 18, 17, 16, 15, 14, 13, 12, 11, 10, 9, 8, 7, 6, 4, 5, 3, 2, 0, 1]⟩,
    ⟨40, ⟨(some 74), (some (72, true)), .op (.load true 3 (.t 73) false)⟩, [39, 38, 37, 36, 34, 35, 33, 32, 31, 30, 28, 29, 27, 25, 26, 24, 23, 22, 21, 20, 19, 18, 17, 16, 15, 14, 13, 12, 11, 10, 9, 8, 7, 6, 4, 5, 3, 2, 0, 1]⟩,
    ⟨41, ⟨(some 75), (some (72, true)), .call 18 [(.t 74)] none⟩, [40, 39, 38, 37, 36, 34, 35, 33, 32, 31, 30, 28, 29, 27, 25, 26, 24, 23, 22, 21, 20, 19, 18, 17, 16, 15, 14, 13, 12, 11, 10, 9, 8, 7, 6, 4, 5, 3, 2, 0, 1]⟩,
    ⟨42, ⟨(some 76), (some (72, true)), .op (.fa 32 (.t 2))⟩, [38, 37, 36, 34, 35, 33, 32, 31, 30, 28, 29, 27, 25, 26, 24, 23, 22, 21, 20, 19, 18, 17, 16, 15, 14, 13, 12, 11, 10, 9, 8, 7, 6, 4, 5, 3, 2, 0, 1]⟩,
    ⟨43, ⟨(some 77), (some (72, true)), .op (.load true 3 (.t 76) false)⟩, [42, 38, 37, 36, 34, 35, 33, 32, 31, 30, 28, 29, 27, 25, 26, 24, 23, 22, 21, 20, 19, 18, 17, 16, 15, 14, 13, 12, 11, 10, 9, 8, 7, 6, 4, 5, 3, 2, 0, 1]⟩,
    ⟨44, ⟨(some 78), (some (72, true)), .call 19 [(.t 77)] none⟩, [43, 42, 41, 40, 39, 38, 37, 36, 34, 35, 33, 32, 31, 30, 28, 29, 27, 25, 26, 24, 23, 22, 21, 20, 19, 18, 17, 16, 15, 14, 13, 12, 11, 10, 9, 8, 7, 6, 4, 5, 3, 2, 0, 1]⟩,
    ⟨45, ⟨(some 79), (some (72, true)), .call 17 [(.t 75), (.t 78)] none⟩, [44, 43, 42, 41, 40, 39, 38, 37, 36, 34, 35, 33, 32, 31, 30, 28, 29, 27, 25, 26, 24, 23, 22, 21, 20, 19, 18, 17, 16, 15, 14, 13, 12, 11, 10, 9, 8, 7, 6, 4, 5, 3, 2, 0, 1]⟩,
    ⟨46, ⟨(some 80), none, .op (.pick (.t 72) (.t 79) (.c (.d (.bool false))))⟩, [45, 44, 43, 42, 41, 40, 39, 38, 37, 36, 34, 35, 33, 32, 31, 30, 28, 29, 27, 25, 26, 24, 23, 22, 21, 20, 19, 18, 17, 16, 15, 14, 13, 12, 11, 10, 9, 8, 7, 6, 4, 5, 3, 2, 0, 1]⟩,
    ⟨47, ⟨(some 4), none, .op (.mv (.t 80) true)⟩, [46, 45, 44, 43, 42, 41, 40, 39, 38, 37, 36, 34, 35, 33, 32, 31, 30, 28, 29, 27, 25, 26, 24, 23, 22, 21, 20, 19, 18, 17, 16, 15, 14, 13, 12, 11, 10, 9, 8, 7, 6, 4, 5, 3, 2, 0, 1]⟩]) <|
  .ret
theorem k4 : Tryd.f4.body.bind (comp Tryd.prog [] Tryd.f4.ntmps) = some c4 := by kernel_rfl
theorem r4 : cRes Tryd.prog Tryd.f4.results.toList = some [.t 4] := by kernel_rfl

theorem cs_packs {dig dig' : List Int} (hd : dig.length = 32) (hd' : dig'.length = 32) (hdb : isB dig) {f f' : Fil} (hf : rngF f) (hs : SzF f) {R : Out → Prop} (h : R (.ret [.d (.bool true)] [] [])) :
    CS Tryd.prog 4 [.agg ((dig.map (D.int .u8) ++ encF f).map .d), .agg ((dig'.map (D.int .u8) ++ encF f').map .d)] [] [] R := by
  refine CS.go0 Tryd.func4 k4 r4 (by kernel_rfl) ?_
  unfold c4
  have tk35 : ∀ Z : List A, Z.length = 35 → Z.take 35 = Z := fun Z h => List.take_of_length_le (by omega)
  have l35 : ∀ (dg : List Int) (g : Fil), dg.length = 32 → ((dg.map (D.int .u8) ++ encF g).map A.d).length = 35 := fun dg g h => by
    obtain ⟨v, l, k⟩ := g; simp [h, encF]
  have a35 : ∀ (l : List D), (l.map A.d).all isCell = true := fun l => by simp [isCell]
  have d32 : ∀ (dg : List Int) (g : Fil), dg.length = 32 → ((dg.map (D.int .u8) ++ encF g).map A.d).drop 32 = (encF g).map .d := fun dg g h => by
    rw [List.map_append]
    exact List.drop_left' (by simp [h])
  have e3 : ∀ g : Fil, ((encF g).map A.d).take 3 = (encF g).map A.d := fun g => by obtain ⟨v, l, k⟩ := g; rfl
  obtain ⟨B, e, hB, hpak⟩ := pak_two hd hdb hf
  have pk := fun R (h : R (.ret [.d (.sl 1 (byt B)), .d (.int .i64 e)] [] [])) => @cs_pack dig hd f R (by rw [hpak]; exact h)
  have pk' := fun R (h : R (.ret [.d (.sl 1 (byt B)), .d (.int .i64 e)] [] [])) => @cs_pack' dig hd f R (by rw [hpak]; exact h)
  have ck := fun R h => @cs_check dig hd f R h
  have ck' := fun R h => @cs_check' dig hd f R h
  have sm := fun R h => @cs_same dig dig' hd hd' f f' R h
  have sm' := fun R h => @cs_same' dig dig' hd hd' f f' R h
  have sme := fun R h => @cs_same' dig dig hd hd f f R h
  have fit := cs_fits2 f 40
  have fit' := cs_fits2 f' 40
  have rw1 := fun R h => cs_rows f R h
  have rw2 := fun R h => cs_rows' f R h
  have ins := fun h => cs_inst f (inF_of f h hs)
  have ins' := fun h => cs_inst' f (inF_of f h hs)
  have smi := cs_sameInst f
  have lv := fun R (h : R (.ret [.d (.bool true)] [] [])) => @cs_live R h
  have g1 := l35 dig f hd
  have g2 := a35 (dig.map (D.int .u8) ++ encF f)
  have g3 := d32 dig f hd
  have g5 : ∀ ρ, renL ρ ((dig.map (D.int .u8) ++ encF f).map A.d) = some ((dig.map (D.int .u8) ++ encF f).map A.d) := fun ρ => renL_ds
  have g1' := l35 dig' f' hd'
  have g2' := a35 (dig'.map (D.int .u8) ++ encF f')
  have g3' := d32 dig' f' hd'
  have g5' : ∀ ρ, renL ρ ((dig'.map (D.int .u8) ++ encF f').map A.d) = some ((dig'.map (D.int .u8) ++ encF f').map A.d) := fun ρ => renL_ds
  have q3 := e3 f
  have q3' := e3 f'
  have qi : ∀ ρ, renL ρ ((instF f).map A.d) = some ((instF f).map A.d) := fun ρ => renL_ds
  have ql : (encF f).length = 3 := by obtain ⟨v, l, k⟩ := f; rfl
  have ql' : (encF f').length = 3 := by obtain ⟨v, l, k⟩ := f'; rfl
  generalize (dig.map (D.int .u8) ++ encF f).map A.d = Z at *
  generalize (dig'.map (D.int .u8) ++ encF f').map A.d = Z' at *
  have qr : ∀ ρ, renL ρ ((encF f).map A.d) = some ((encF f).map A.d) := fun ρ => renL_ds
  have qr' : ∀ ρ, renL ρ ((encF f').map A.d) = some ((encF f').map A.d) := fun ρ => renL_ds
  generalize (encF f).map A.d = Y at *
  generalize (encF f').map A.d = Y' at *
  have g4 := tk35 Z g1
  have g4' := tk35 Z' g1'
  simp (maxSteps := 10000000) -dsimp only [go_sem, simprocAttr, g1, g2, g4, g5, g1', g2', g4', g5']
  refine kCS_intro (lv _ ?_)
  (simp (maxSteps := 10000000) -dsimp only [go_sem, simprocAttr, g1, g3, q3, g5, g5', qr, qr']; repeat ((first | (refine kAnd_intro (by omega) ?_) | (refine kImp_intro (fun _ => ?_))); try simp (maxSteps := 10000000) -dsimp only [go_sem, simprocAttr, g1, g3, q3, g5, g5', qr, qr']))
  refine kCS_intro (fit _ ?_ (fun hfit => ?_))
  · simp (maxSteps := 10000000) -dsimp only [go_sem, simprocAttr]
    refine kCS_intro (lv _ ?_)
    simp (maxSteps := 10000000) -dsimp only [go_sem, simprocAttr]
    exact h
  (simp (maxSteps := 10000000) -dsimp only [go_sem, simprocAttr, g1', g3', q3', g5, g5', qr, qr']; repeat ((first | (refine kAnd_intro (by omega) ?_) | (refine kImp_intro (fun _ => ?_))); try simp (maxSteps := 10000000) -dsimp only [go_sem, simprocAttr, g1', g3', q3', g5, g5', qr, qr']))
  refine kCS_intro (fit' _ ?_ (fun _ => ?_))
  · simp (maxSteps := 10000000) -dsimp only [go_sem, simprocAttr]
    refine kCS_intro (lv _ ?_)
    simp (maxSteps := 10000000) -dsimp only [go_sem, simprocAttr]
    exact h
  (simp (maxSteps := 10000000) -dsimp only [go_sem, simprocAttr, g1, g2, g4, g5, g1', g2', g4', g5']; repeat ((first | (refine kAnd_intro (by omega) ?_) | (refine kImp_intro (fun _ => ?_))); try simp (maxSteps := 10000000) -dsimp only [go_sem, simprocAttr, g1, g2, g4, g5, g1', g2', g4', g5']))
  refine kCS_intro (pk _ ?_)
  (simp (maxSteps := 10000000) -dsimp only [go_sem, simprocAttr, g1, g2, g4, g5, g1', g2', g4', g5']; repeat ((first | (refine kAnd_intro (by omega) ?_) | (refine kImp_intro (fun _ => ?_))); try simp (maxSteps := 10000000) -dsimp only [go_sem, simprocAttr, g1, g2, g4, g5, g1', g2', g4', g5']))
  refine kCS_intro (pk' _ ?_)
  (simp (maxSteps := 10000000) -dsimp only [go_sem, simprocAttr, g1, g2, g4, g5, g1', g2', g4', g5']; repeat ((first | (refine kAnd_intro (by omega) ?_) | (refine kImp_intro (fun _ => ?_))); try simp (maxSteps := 10000000) -dsimp only [go_sem, simprocAttr, g1, g2, g4, g5, g1', g2', g4', g5']))
  refine kDC_intro (.d (.bool true)) (cs_equal hB hB (R := fun o => o = _) (by simp)) (fun _ => by simp (maxSteps := 10000000) -dsimp only [go_sem, simprocAttr, g1, g2, g3, g4, g5, g1', g2', g4', g5', q3, q3', qr, qr', qi]) (fun _ => by simp (maxSteps := 10000000) -dsimp only [go_sem, simprocAttr, g1, g2, g3, g4, g5, g1', g2', g4', g5', q3, q3', qr, qr', qi]) ⟨rfl, by simp (maxSteps := 10000000) -dsimp only [go_sem, simprocAttr]⟩ ?_
  (simp (maxSteps := 10000000) -dsimp only [go_sem, simprocAttr, g1, g2, g3, g4, g5, g1', g2', g4', g5', q3, q3', qr, qr', qi]; repeat ((first | (refine kAnd_intro (by omega) ?_) | (refine kImp_intro (fun _ => ?_))); try simp (maxSteps := 10000000) -dsimp only [go_sem, simprocAttr, g1, g2, g3, g4, g5, g1', g2', g4', g5', q3, q3', qr, qr', qi]))
  obtain ⟨ce, hce⟩ : ∃ q : Int, q = if okRet f = true then 0 else 250 := ⟨_, rfl⟩
  rw [← hce] at ck ck'
  refine kDC_intro (.d (.int .i64 ce)) (ck (fun o => o = _) rfl) (fun _ => by simp (maxSteps := 10000000) -dsimp only [go_sem, simprocAttr, g1, g2, g3, g4, g5, g1', g2', g3', g4', g5', q3, q3', qr, qr', qi]) (fun _ => by simp (maxSteps := 10000000) -dsimp only [go_sem, simprocAttr, g1, g2, g3, g4, g5, g1', g2', g3', g4', g5', q3, q3', qr, qr', qi]) ⟨rfl, by simp (maxSteps := 10000000) -dsimp only [go_sem, simprocAttr]⟩ ?_
  (simp (maxSteps := 10000000) -dsimp only [go_sem, simprocAttr, g1, g2, g3, g4, g5, g1', g2', g3', g4', g5', q3, q3', qr, qr', qi]; repeat ((first | (refine kAnd_intro (by omega) ?_) | (refine kImp_intro (fun _ => ?_))); try simp (maxSteps := 10000000) -dsimp only [go_sem, simprocAttr, g1, g2, g3, g4, g5, g1', g2', g3', g4', g5', q3, q3', qr, qr', qi]))
  refine kDC_intro (.d (.int .i64 ce)) (ck' (fun o => o = _) rfl) (fun _ => by simp (maxSteps := 10000000) -dsimp only [go_sem, simprocAttr, g1, g2, g3, g4, g5, g1', g2', g3', g4', g5', q3, q3', qr, qr', qi]) (fun _ => by simp (maxSteps := 10000000) -dsimp only [go_sem, simprocAttr, g1, g2, g3, g4, g5, g1', g2', g3', g4', g5', q3, q3', qr, qr', qi]) ⟨rfl, by simp (maxSteps := 10000000) -dsimp only [go_sem, simprocAttr]⟩ ?_
  (simp (maxSteps := 10000000) -dsimp only [go_sem, simprocAttr, g1, g2, g3, g4, g5, g1', g2', g3', g4', g5', q3, q3', qr, qr', qi]; repeat ((first | (refine kAnd_intro (by omega) ?_) | (refine kImp_intro (fun _ => ?_))); try simp (maxSteps := 10000000) -dsimp only [go_sem, simprocAttr, g1, g2, g3, g4, g5, g1', g2', g3', g4', g5', q3, q3', qr, qr', qi]))
  refine kDC_intro (.d (.int .i64 (rowsF f))) (rw1 (fun o => o = _) rfl) (fun _ => by simp (maxSteps := 10000000) -dsimp only [go_sem, simprocAttr, g1, g2, g3, g4, g5, g1', g2', g3', g4', g5', q3, q3', qr, qr', qi]) (fun _ => by simp (maxSteps := 10000000) -dsimp only [go_sem, simprocAttr, g1, g2, g3, g4, g5, g1', g2', g3', g4', g5', q3, q3', qr, qr', qi]) ⟨rfl, by simp (maxSteps := 10000000) -dsimp only [go_sem, simprocAttr]⟩ ?_
  (simp (maxSteps := 10000000) -dsimp only [go_sem, simprocAttr, g1, g2, g3, g4, g5, g1', g2', g3', g4', g5', q3, q3', qr, qr', qi]; repeat ((first | (refine kAnd_intro (by omega) ?_) | (refine kImp_intro (fun _ => ?_))); try simp (maxSteps := 10000000) -dsimp only [go_sem, simprocAttr, g1, g2, g3, g4, g5, g1', g2', g3', g4', g5', q3, q3', qr, qr', qi]))
  refine kDC_intro (.d (.int .i64 (rowsF f))) (rw2 (fun o => o = _) rfl) (fun _ => by simp (maxSteps := 10000000) -dsimp only [go_sem, simprocAttr, g1, g2, g3, g4, g5, g1', g2', g3', g4', g5', q3, q3', qr, qr', qi]) (fun _ => by simp (maxSteps := 10000000) -dsimp only [go_sem, simprocAttr, g1, g2, g3, g4, g5, g1', g2', g3', g4', g5', q3, q3', qr, qr', qi]) ⟨rfl, by simp (maxSteps := 10000000) -dsimp only [go_sem, simprocAttr]⟩ ?_
  (simp (maxSteps := 10000000) -dsimp only [go_sem, simprocAttr, g1, g2, g3, g4, g5, g1', g2', g3', g4', g5', q3, q3', qr, qr', qi]; repeat ((first | (refine kAnd_intro (by omega) ?_) | (refine kImp_intro (fun _ => ?_))); try simp (maxSteps := 10000000) -dsimp only [go_sem, simprocAttr, g1, g2, g3, g4, g5, g1', g2', g3', g4', g5', q3, q3', qr, qr', qi]))
  refine kDC_intro (.d (.bool (decide (dig = dig') && sameF f f'))) (sm' (fun o => o = _) rfl) (fun _ => by simp (maxSteps := 10000000) -dsimp only [go_sem, simprocAttr, g1, g2, g3, g4, g5, g1', g2', g3', g4', g5', q3, q3', qr, qr', qi]) (fun _ => by simp (maxSteps := 10000000) -dsimp only [go_sem, simprocAttr, g1, g2, g3, g4, g5, g1', g2', g3', g4', g5', q3, q3', qr, qr', qi]) ⟨rfl, by simp (maxSteps := 10000000) -dsimp only [go_sem, simprocAttr]⟩ ?_
  (simp (maxSteps := 10000000) -dsimp only [go_sem, simprocAttr, g1, g2, g3, g4, g5, g1', g2', g3', g4', g5', q3, q3', qr, qr', qi]; repeat ((first | (refine kAnd_intro (by omega) ?_) | (refine kImp_intro (fun _ => ?_))); try simp (maxSteps := 10000000) -dsimp only [go_sem, simprocAttr, g1, g2, g3, g4, g5, g1', g2', g3', g4', g5', q3, q3', qr, qr', qi]))
  refine kDC_intro (.d (.bool (decide (dig = dig') && sameF f f'))) (sm (fun o => o = _) rfl) (fun _ => by simp (maxSteps := 10000000) -dsimp only [go_sem, simprocAttr, g1, g2, g3, g4, g5, g1', g2', g3', g4', g5', q3, q3', qr, qr', qi]) (fun _ => by simp (maxSteps := 10000000) -dsimp only [go_sem, simprocAttr, g1, g2, g3, g4, g5, g1', g2', g3', g4', g5', q3, q3', qr, qr', qi]) ⟨rfl, by simp (maxSteps := 10000000) -dsimp only [go_sem, simprocAttr]⟩ ?_
  (simp (maxSteps := 10000000) -dsimp only [go_sem, simprocAttr, g1, g2, g3, g4, g5, g1', g2', g3', g4', g5', q3, q3', qr, qr', qi]; repeat ((first | (refine kAnd_intro (by omega) ?_) | (refine kImp_intro (fun _ => ?_))); try simp (maxSteps := 10000000) -dsimp only [go_sem, simprocAttr, g1, g2, g3, g4, g5, g1', g2', g3', g4', g5', q3, q3', qr, qr', qi]))
  refine kDC_intro (.d (.bool true)) (sme (fun o => o = _) (by simp [sameF_refl])) (fun _ => by simp (maxSteps := 10000000) -dsimp only [go_sem, simprocAttr, g1, g2, g3, g4, g5, g1', g2', g3', g4', g5', q3, q3', qr, qr', qi]) (fun _ => by simp (maxSteps := 10000000) -dsimp only [go_sem, simprocAttr, g1, g2, g3, g4, g5, g1', g2', g3', g4', g5', q3, q3', qr, qr', qi]) ⟨rfl, by simp (maxSteps := 10000000) -dsimp only [go_sem, simprocAttr]⟩ ?_
  (simp (maxSteps := 10000000) -dsimp only [go_sem, simprocAttr, g1, g2, g3, g4, g5, g1', g2', g3', g4', g5', q3, q3', qr, qr', qi]; repeat ((first | (refine kAnd_intro (by omega) ?_) | (refine kImp_intro (fun _ => ?_))); try simp (maxSteps := 10000000) -dsimp only [go_sem, simprocAttr, g1, g2, g3, g4, g5, g1', g2', g3', g4', g5', q3, q3', qr, qr', qi]))
  refine kDC_intro (.agg ((instF f).map A.d)) (ins hfit (fun o => o = _) rfl) (fun _ => by simp (maxSteps := 10000000) -dsimp only [go_sem, simprocAttr, g1, g2, g3, g4, g5, g1', g2', g3', g4', g5', q3, q3', qr, qr', qi]) (fun _ => by simp (maxSteps := 10000000) -dsimp only [go_sem, simprocAttr, g1, g2, g3, g4, g5, g1', g2', g3', g4', g5', q3, q3', qr, qr', qi]) ⟨rfl, by simp (maxSteps := 10000000) -dsimp only [go_sem, simprocAttr]⟩ ?_
  (simp (maxSteps := 10000000) -dsimp only [go_sem, simprocAttr, g1, g2, g3, g4, g5, g1', g2', g3', g4', g5', q3, q3', qr, qr', qi]; repeat ((first | (refine kAnd_intro (by omega) ?_) | (refine kImp_intro (fun _ => ?_))); try simp (maxSteps := 10000000) -dsimp only [go_sem, simprocAttr, g1, g2, g3, g4, g5, g1', g2', g3', g4', g5', q3, q3', qr, qr', qi]))
  refine kDC_intro (.agg ((instF f).map A.d)) (ins' hfit (fun o => o = _) rfl) (fun _ => by simp (maxSteps := 10000000) -dsimp only [go_sem, simprocAttr, g1, g2, g3, g4, g5, g1', g2', g3', g4', g5', q3, q3', qr, qr', qi]) (fun _ => by simp (maxSteps := 10000000) -dsimp only [go_sem, simprocAttr, g1, g2, g3, g4, g5, g1', g2', g3', g4', g5', q3, q3', qr, qr', qi]) ⟨rfl, by simp (maxSteps := 10000000) -dsimp only [go_sem, simprocAttr]⟩ ?_
  (simp (maxSteps := 10000000) -dsimp only [go_sem, simprocAttr, g1, g2, g3, g4, g5, g1', g2', g3', g4', g5', q3, q3', qr, qr', qi]; repeat ((first | (refine kAnd_intro (by omega) ?_) | (refine kImp_intro (fun _ => ?_))); try simp (maxSteps := 10000000) -dsimp only [go_sem, simprocAttr, g1, g2, g3, g4, g5, g1', g2', g3', g4', g5', q3, q3', qr, qr', qi]))
  refine kDC_intro (.d (.bool true)) (smi (fun o => o = _) rfl) (fun _ => by simp (maxSteps := 10000000) -dsimp only [go_sem, simprocAttr, g1, g2, g3, g4, g5, g1', g2', g3', g4', g5', q3, q3', qr, qr', qi]) (fun _ => by simp (maxSteps := 10000000) -dsimp only [go_sem, simprocAttr, g1, g2, g3, g4, g5, g1', g2', g3', g4', g5', q3, q3', qr, qr', qi]) ⟨rfl, by simp (maxSteps := 10000000) -dsimp only [go_sem, simprocAttr]⟩ ?_
  (simp (maxSteps := 10000000) -dsimp only [go_sem, simprocAttr, g1, g2, g3, g4, g5, g1', g2', g3', g4', g5', q3, q3', qr, qr', qi]; repeat ((first | (refine kAnd_intro (by omega) ?_) | (refine kImp_intro (fun _ => ?_))); try simp (maxSteps := 10000000) -dsimp only [go_sem, simprocAttr, g1, g2, g3, g4, g5, g1', g2', g3', g4', g5', q3, q3', qr, qr', qi]))
  exact h

end Go.Vx
