/- The reader: a row. -/
import Derived.Test.YtndfjapojjinaaaDoorRp1
namespace Go.Vx
set_option linter.unusedVariables false
set_option linter.unusedSimpArgs false
open Go Go.Proofs
set_option linter.unusedSimpArgs false
set_option linter.unusedVariables false
set_option maxRecDepth 10000
set_option maxHeartbeats 4000000

def kidN (f : List Int → PR Fil) : Nat → List Int → List Fil → PR (List Fil)
  | 0, L, acc => .ok acc L
  | n + 1, L, acc => match f L with
    | .ok v r => kidN f n r (acc ++ [v])
    | .err e => .err e
def kidsN (f : List Int → PR Fil) : Nat → List Int → List (List Fil) → PR (List (List Fil))
  | 0, L, acc => .ok acc L
  | _ + 1, [], _ => .err 251
  | _ + 1, [_], _ => .err 251
  | n + 1, a :: b :: L, acc => match kidN f (a.toNat * 256 + b.toNat) L [] with
    | .ok v r => kidsN f n r (acc ++ [v])
    | .err e => .err e
def rowF : Nat → List Int → PR Fil
  | 0, _ => .err 251
  | d + 1, L => match valuesF L with
    | .err e => .err e
    | .ok v r => match valuesF r with
      | .err e => .err e
      | .ok l r2 => match r2 with
        | [] => .err 251
        | n :: r3 => match kidsN (rowF d) n.toNat r3 [] with
          | .err e => .err e
          | .ok k r4 => .ok (.mk v l k) r4

theorem kidN_suf {f : List Int → PR Fil} (hf : ∀ {L x r}, f L = .ok x r → r <:+ L) : ∀ {n : Nat} {L : List Int} {acc : List Fil} {v : List Fil} {r : List Int}, kidN f n L acc = .ok v r → r <:+ L
  | 0, L, acc, v, r, h => by cases h; exact List.suffix_refl _
  | n + 1, L, acc, v, r, h => by
    simp only [kidN] at h
    split at h
    · rename_i w r' hv; exact (kidN_suf hf h).trans (hf hv)
    · cases h
theorem kidsN_suf {f : List Int → PR Fil} (hf : ∀ {L x r}, f L = .ok x r → r <:+ L) : ∀ {n : Nat} {L : List Int} {acc : List (List Fil)} {v : List (List Fil)} {r : List Int}, kidsN f n L acc = .ok v r → r <:+ L
  | 0, L, acc, v, r, h => by cases h; exact List.suffix_refl _
  | n + 1, [], acc, v, r, h => by cases h
  | n + 1, [_], acc, v, r, h => by cases h
  | n + 1, a :: b :: L, acc, v, r, h => by
    simp only [kidsN] at h
    split at h
    · rename_i w r' hv; exact (kidsN_suf hf h).trans ((kidN_suf hf hv).trans ((List.suffix_cons _ _).trans (List.suffix_cons _ _)))
    · cases h
theorem rowF_suf : ∀ {d : Nat} {L : List Int} {x : Fil} {r : List Int}, rowF d L = .ok x r → r <:+ L
  | 0, L, x, r, h => by cases h
  | d + 1, L, x, r, h => by
    simp only [rowF] at h
    split at h
    · cases h
    · rename_i v r1 h1
      split at h
      · cases h
      · rename_i l r2 h2
        split at h
        · cases h
        · rename_i n r3
          split at h
          · cases h
          · rename_i k r4 h3
            cases h
            exact (kidsN_suf rowF_suf h3).trans ((List.suffix_cons _ _).trans ((valuesF_suf h2).1.trans (valuesF_suf h1).1))

theorem encR_app {acc : List Fil} {v : Fil} : encR (acc ++ [v]) = encR acc ++ [encF v] := by
  induction acc with
  | nil => rfl
  | cons a l ih => simp [encR, ih]
theorem encK_app {acc : List (List Fil)} {v : List Fil} : encK (acc ++ [v]) = encK acc ++ [[.sl 3 (encR v)]] := by
  induction acc with
  | nil => rfl
  | cons a l ih => simp [encK, ih]

theorem or_be {a b : Nat} (ha : a < 256) (hb : b < 256) : ibits .or .i64 (IntKind.i64.wrap (a * 2 ^ min 8 64)) b = ((a * 256 + b : Nat) : Int) := by
  have e1 : IntKind.i64.wrap ((a : Int) * 2 ^ min 8 64) = ((a * 256 : Nat) : Int) := by
    rw [show ((a : Int) * 2 ^ min 8 64) = ((a * 256 : Nat) : Int) by simp, wrap_i64 (by omega) (by omega)]
  have e2 : (a * 256) ||| b = a * 256 + b := by
    have := Nat.shiftLeft_add_eq_or_of_lt (i := 8) (b := b) (by omega) a
    rw [Nat.shiftLeft_eq] at this
    exact this.symm
  rw [e1]
  show IntKind.i64.wrap (BitVec.ofInt 64 ((a * 256 : Nat) : Int) ||| BitVec.ofInt 64 (b : Int)).toNat = _
  rw [BitVec.ofInt_natCast, BitVec.ofInt_natCast, BitVec.toNat_or, BitVec.toNat_ofNat, BitVec.toNat_ofNat, Nat.mod_eq_of_lt (by omega), Nat.mod_eq_of_lt (by omega), e2, wrap_i64 (by omega) (by omega)]

def RrowCs (d : Nat) : Prop := ∀ (L : List Int) (R : Out → Prop), L.length < d → (∀ x, x ∈ L → 0 ≤ x ∧ x < 256) → Back R (rowF d L) (fun v => .agg ((encF v).map .d)) →
  CS Tryd.prog 36 [.ptr 0 0] [(0, [.d (.sl 1 (byt L))])] [] R

/-- (*excise/efile.reader).row -/
def c36 : AC :=
  .seq (.reg [⟨(some 2), none, .op (.alloc [.d (.sl 10 []), .d (.sl 10 []), .d (.sl 1 [])] [(0, 10), (1, 10), (2, 1)])⟩]) <|
  .seq (.reg [⟨(some 6), none, .op (.mv (.t 0) false)⟩,
    ⟨(some 7), none, .call 56 [(.t 6)] none⟩,
    ⟨(some 8), none, .op (.mv (.t 0) false)⟩,
    ⟨(some 9), none, .call 56 [(.t 8)] none⟩,
    ⟨(some 10), none, .op (.build [.nil 10, .nil 10, .nil 1] [(0, 1, (.t 7)), (1, 1, (.t 9))])⟩,
    ⟨(some 3), none, .op (.alloc [.d (.sl 10 []), .d (.sl 10 []), .d (.sl 1 [])] [(0, 10), (1, 10), (2, 1)])⟩,
    ⟨none, none, .op (.store 3 (.t 3) (.t 10))⟩]) <|
  .seq (.seq (.reg [⟨(some 11), none, .op (.mv (.t 0) false)⟩,
    ⟨(some 12), none, .call 57 [(.t 11)] none⟩,
    ⟨(some 13), none, .op (.mv (.c (.d (.int .i64 0))) false)⟩]) <|
  .block 0 (
    .loop (
      .seq (.reg [⟨(some 14), none, .op (.bin .lss (.t 13) (.t 12))⟩]) <|
      .seq (.cond (.t 14) (.skip) (.exit 0)) <|
      .seq (.block 1 (
        .seq (.reg [⟨(some 15), none, .op (.mv (.t 0) false)⟩,
          ⟨(some 16), none, .call 57 [(.t 15)] none⟩,
          ⟨(some 17), none, .op (.bin .shl (.t 16) (.c (.d (.int .u64 8))))⟩,
          ⟨(some 18), none, .op (.mv (.t 0) false)⟩,
          ⟨(some 19), none, .call 57 [(.t 18)] none⟩,
          ⟨(some 20), none, .op (.bin .or (.t 17) (.t 19))⟩,
          ⟨(some 4), none, .op (.mv (.t 20) true)⟩]) <|
        .seq (.reg [⟨(some 5), none, .op (.nil 3)⟩]) <|
        .seq (.seq (.reg [⟨(some 21), none, .op (.mv (.t 4) false)⟩,
          ⟨(some 22), none, .op (.mv (.c (.d (.int .i64 0))) false)⟩]) <|
        .block 2 (
          .loop (
            .seq (.reg [⟨(some 23), none, .op (.bin .lss (.t 22) (.t 21))⟩]) <|
            .seq (.cond (.t 23) (.skip) (.exit 2)) <|
            .seq (.block 3 (
              .reg [⟨(some 24), none, .op (.mv (.t 5) true)⟩,
                ⟨(some 25), none, .op (.mv (.t 0) false)⟩,
                ⟨(some 26), none, .call 36 [(.t 25)] none⟩,
                ⟨(some 27), none, .op (.bslc 3 1 [.sl 10 [], .sl 10 [], .sl 1 []] [(0, 3, (.t 26))])⟩,
                ⟨(some 28), none, .op (.app 3 72 (.t 24) (.t 27))⟩,
                ⟨(some 5), none, .op (.mv (.t 28) true)⟩])) <|
            .reg [⟨(some 29), none, .op (.bin .add (.t 22) (.c (.d (.int .i64 1))))⟩,
              ⟨(some 22), none, .op (.mv (.t 29) false)⟩]))) <|
        .reg [⟨(some 30), none, .op (.fa 2 (.t 3))⟩,
          ⟨(some 31), none, .op (.load false 1 (.t 30) true)⟩,
          ⟨(some 32), none, .op (.mv (.t 5) false)⟩,
          ⟨(some 33), none, .op (.bslc 1 1 [.sl 3 []] [(0, 1, (.t 32))])⟩,
          ⟨(some 34), none, .op (.app 1 24 (.t 31) (.t 33))⟩,
          ⟨(some 35), none, .op (.fa 2 (.t 3))⟩,
          ⟨none, none, .op (.store 1 (.t 35) (.t 34))⟩])) <|
      .reg [⟨(some 36), none, .op (.bin .add (.t 13) (.c (.d (.int .i64 1))))⟩,
        ⟨(some 13), none, .op (.mv (.t 36) false)⟩]))) <|
  .seq (.reg [⟨(some 37), none, .op (.load true 3 (.t 3) true)⟩,
    ⟨none, none, .op (.store 3 (.t 2) (.t 37))⟩]) <|
  .ret
theorem k36 : Tryd.f36.body.bind (comp Tryd.prog [] Tryd.f36.ntmps) = some c36 := by kernel_rfl
theorem r36 : cRes Tryd.prog Tryd.f36.results.toList = some [.c 2 true 3] := by kernel_rfl

theorem cs_rrow : ∀ d : Nat, RrowCs d := by
  intro d
  induction d with
  | zero => intro L R h; omega
  | succ d ih =>
  intro L R hd hb h
  refine CS.go0 Tryd.func36 k36 r36 (by kernel_rfl) ?_
  unfold c36
  simp (maxSteps := 10000000) -dsimp only [go_sem, simprocAttr]
  refine kCS_intro (cs_rvalues hb ?_)
  cases hv : valuesF L with
  | err e =>
    simp only [rowF, hv] at h
    intro L'
    simp (maxSteps := 10000000) -dsimp only [go_sem, simprocAttr]
    exact h L'
  | ok v r =>
  have hs1 := valuesF_suf hv
  have hb1 := suf_all hs1.1 hb
  simp (maxSteps := 10000000) -dsimp only [go_sem, simprocAttr]
  refine kCS_intro (cs_rvalues hb1 ?_)
  cases hl : valuesF r with
  | err e =>
    simp only [rowF, hv, hl] at h
    intro L'
    simp (maxSteps := 10000000) -dsimp only [go_sem, simprocAttr]
    exact h L'
  | ok l r2 =>
  have hs2 := valuesF_suf hl
  have hb2 := suf_all hs2.1 hb1
  simp (maxSteps := 10000000) -dsimp only [go_sem, simprocAttr]
  refine kCS_intro (cs_one hb2 (fun n r3 hL => ?_) (fun hL => ?_))
  case refine_2 =>
    subst hL
    simp only [rowF, hv, hl] at h
    simp (maxSteps := 10000000) -dsimp only [go_sem, simprocAttr]
    exact h []
  subst hL
  have hb3 : ∀ x, x ∈ r3 → 0 ≤ x ∧ x < 256 := fun x hx => hb2 x (.tail _ hx)
  have hn := hb2 n (.head _)
  obtain ⟨N, rfl⟩ : ∃ N : Nat, n = N := ⟨n.toNat, by omega⟩
  have hd3 : r3.length < d := by have := hs1.2; have := hs2.2; simp at this; omega
  simp only [rowF, hv, hl, Int.toNat_natCast] at h
  simp (maxSteps := 10000000) -dsimp only [go_sem, simprocAttr]
  refine kLoop_intro (loop_rule (ι := { p : Nat × List Int × List (List Fil) // p.1 ≤ N ∧ p.2.1 <:+ r3 ∧ p.2.2.length = p.1 ∧ kidsN (rowF d) (N - p.1) p.2.1 p.2.2 = kidsN (rowF d) N r3 [] })
    (fun p => ⟨Tryd.f36.ntmps, 1000, [(13, .d (.int .i64 p.1.1)), (12, .d (.int .i64 N)), (3, .ptr 1003 0), (2, .ptr 1002 0), (0, .ptr 0 0)],
      [(1003, [.d (.sl 10 (v.map encV)), .d (.sl 10 (l.map encV)), .d (.sl 1 (encK p.1.2.2))]), (1002, [.d (.sl 10 []), .d (.sl 10 []), .d (.sl 1 [])]), (0, [.d (.sl 1 (byt p.1.2.1))])], [(.b 1003 2, 1)]⟩) (fun p => N - p.1.1) ⟨(0, r3, []), by omega, List.suffix_refl _, rfl, rfl⟩ ?_ (fun _ => ⟨rfl, rfl⟩) ?_)
  · refine weak_mk ?_ ?_ ?_ ?_ ?_ <;> simp (maxSteps := 10000000) -dsimp only [go_sem, simprocAttr, encK]
  rintro ⟨⟨i, M, acc⟩, hi, hs, ha, he⟩
  simp only at hi hs ha he
  have hbM := suf_all hs hb3
  simp (maxSteps := 10000000) -dsimp only [go_sem, simprocAttr]
  refine kIf_intro (fun h1 => ?_) (fun h1 => ?_)
  · have hlt : i < N := by simp at h1; omega
    rw [show N - i = (N - (i + 1)) + 1 by omega] at he
    simp (maxSteps := 10000000) -dsimp only [go_sem, simprocAttr]
    refine kCS_intro (cs_one hbM (fun a M1 hL => ?_) (fun hL => ?_))
    case refine_2 =>
      subst hL
      simp only [kidsN] at he
      rw [← he] at h
      simp (maxSteps := 10000000) -dsimp only [go_sem, simprocAttr]
      exact h []
    subst hL
    have hb4 : ∀ x, x ∈ M1 → 0 ≤ x ∧ x < 256 := fun x hx => hbM x (.tail _ hx)
    have ha1 := hbM a (.head _)
    simp (maxSteps := 10000000) -dsimp only [go_sem, simprocAttr]
    refine kCS_intro (cs_one hb4 (fun b M2 hL => ?_) (fun hL => ?_))
    case refine_2 =>
      subst hL
      simp only [kidsN] at he
      rw [← he] at h
      simp (maxSteps := 10000000) -dsimp only [go_sem, simprocAttr]
      exact h []
    subst hL
    have hb5 : ∀ x, x ∈ M2 → 0 ≤ x ∧ x < 256 := fun x hx => hb4 x (.tail _ hx)
    have hb2 := hb4 b (.head _)
    simp (maxSteps := 10000000) -dsimp only [go_sem, simprocAttr]
    obtain ⟨a', rfl⟩ : ∃ a' : Nat, a = a' := ⟨a.toNat, by omega⟩
    obtain ⟨b', rfl⟩ : ∃ b' : Nat, b = b' := ⟨b.toNat, by omega⟩
    rw [or_be (by omega) (by omega)]
    simp only [kidsN, Int.toNat_natCast] at he
    generalize hQ : a' * 256 + b' = Q at he ⊢
    have hQl : Q < 65536 := by omega
    refine kLoop_intro (loop_rule (ι := { p : Nat × List Int × List Fil // p.1 ≤ Q ∧ p.2.1 <:+ M2 ∧ p.2.2.length = p.1 ∧ kidN (rowF d) (Q - p.1) p.2.1 p.2.2 = kidN (rowF d) Q M2 [] })
      (fun p => ⟨Tryd.f36.ntmps, 1000, [(22, .d (.int .i64 p.1.1)), (21, .d (.int .i64 Q)), (5, .d (.sl 3 (encR p.1.2.2))), (13, .d (.int .i64 i)), (12, .d (.int .i64 N)), (3, .ptr 1003 0), (2, .ptr 1002 0), (0, .ptr 0 0)],
        [(1003, [.d (.sl 10 (v.map encV)), .d (.sl 10 (l.map encV)), .d (.sl 1 (encK acc))]), (1002, [.d (.sl 10 []), .d (.sl 10 []), .d (.sl 1 [])]), (0, [.d (.sl 1 (byt p.1.2.1))])], [(.t 5, 3), (.b 1003 2, 1)]⟩) (fun p => Q - p.1.1) ⟨(0, M2, []), by omega, List.suffix_refl _, rfl, rfl⟩ ?_ (fun _ => ⟨rfl, rfl⟩) ?_)
    · refine weak_mk ?_ ?_ ?_ ?_ ?_ <;> simp (maxSteps := 10000000) -dsimp only [go_sem, simprocAttr, encR]
    rintro ⟨⟨j, S, kc⟩, hj, hsj, hkc, hej⟩
    simp only at hj hsj hkc hej
    have hbS := suf_all hsj hb5
    simp (maxSteps := 10000000) -dsimp only [go_sem, simprocAttr]
    refine kIf_intro (fun h2 => ?_) (fun h2 => ?_)
    · have hjt : j < Q := by simp at h2; omega
      rw [show Q - j = (Q - (j + 1)) + 1 by omega, kidN] at hej
      have hSl : S.length < d := by have := hsj.length_le; have := hs.length_le; simp at this; omega
      simp (maxSteps := 10000000) -dsimp only [go_sem, simprocAttr]
      refine kCS_intro (ih S _ hSl hbS ?_)
      cases hrw : rowF d S with
      | err e =>
        rw [hrw] at hej
        simp only at hej
        rw [← hej] at he
        rw [← he] at h
        intro L'
        simp (maxSteps := 10000000) -dsimp only [go_sem, simprocAttr]
        exact h L'
      | ok f S' =>
        rw [hrw] at hej
        simp only at hej
        obtain ⟨fv, fl, fk⟩ := f
        simp (maxSteps := 10000000) -dsimp only [go_sem, simprocAttr, encF]
        refine kImp_intro (fun hl1 => ?_)
        simp (maxSteps := 10000000) -dsimp only [go_sem, simprocAttr]
        refine kAnd_intro (by omega) ?_
        simp (maxSteps := 10000000) -dsimp only [go_sem, simprocAttr]
        refine kAnd_intro (by omega) ?_
        simp (maxSteps := 10000000) -dsimp only [go_sem, simprocAttr]
        refine ⟨⟨(j + 1, S', kc ++ [.mk fv fl fk]), hjt, (rowF_suf hrw).trans hsj, by simp [hkc], hej⟩, by show _ - (j + 1) < _ - j; omega, ?_⟩
        refine weak_mk ?_ ?_ ?_ ?_ ?_ <;> simp (maxSteps := 10000000) -dsimp only [go_sem, simprocAttr]
        rw [wrap_i64 (by omega) (by omega)]
        refine ⟨rfl, ?_⟩
        rw [encR_app]
        rfl
    · have : j = Q := by simp at h2; omega
      subst this
      rw [Nat.sub_self, kidN] at hej
      rw [← hej] at he
      simp only at he
      have hsM : S <:+ r3 := hsj.trans ((List.suffix_cons _ _).trans ((List.suffix_cons _ _).trans hs))
      simp (maxSteps := 10000000) -dsimp only [go_sem, simprocAttr]
      refine kImp_intro (fun hl1 => ?_)
      simp (maxSteps := 10000000) -dsimp only [go_sem, simprocAttr]
      refine kAnd_intro (by omega) ?_
      simp (maxSteps := 10000000) -dsimp only [go_sem, simprocAttr]
      refine kAnd_intro (by omega) ?_
      simp (maxSteps := 10000000) -dsimp only [go_sem, simprocAttr]
      refine ⟨⟨(i + 1, S, acc ++ [kc]), hlt, hsM, by simp [ha], he⟩, by show _ - (i + 1) < _ - i; omega, ?_⟩
      refine weak_mk ?_ ?_ ?_ ?_ ?_ <;> simp (maxSteps := 10000000) -dsimp only [go_sem, simprocAttr]
      · rw [encK_app]
      · rw [wrap_i64 (by omega) (by omega)]
        rfl
  · have : i = N := by simp at h1; omega
    subst this
    rw [Nat.sub_self, kidsN] at he
    rw [← he] at h
    simp (maxSteps := 10000000) -dsimp only [go_sem, simprocAttr]
    exact h

end Go.Vx

/- Packing a return. -/
namespace Go.Vx
set_option linter.unusedVariables false
set_option linter.unusedSimpArgs false
open Go Go.Proofs
set_option linter.unusedSimpArgs false
set_option linter.unusedVariables false
set_option maxRecDepth 10000
set_option maxHeartbeats 4000000

theorem toDs_map : ∀ {l : List D}, toDs (l.map A.d) = some l
  | [] => rfl
  | x :: l => by rw [List.map_cons, toDs_cons, toDs_map (l := l)]; rfl
theorem toDs_yc {l : List Int} : toDs (yc l) = some (l.map (D.int .u8)) := by rw [← map_yc, toDs_map]
theorem chunk_u8 : ∀ {l : List Int}, chunk 1 l.length (l.map (D.int .u8)) = some (bys l)
  | [] => rfl
  | x :: l => by
    rw [List.length_cons, chunk_succ, if_pos (by simp)]
    show (chunk 1 l.length (l.map (D.int .u8))).map _ = _
    rw [chunk_u8 (l := l)]; rfl
theorem renL_ds {ρ} : ∀ {l : List D}, renL ρ (l.map A.d) = some (l.map A.d)
  | [] => rfl
  | x :: l => by rw [List.map_cons, renL_c, renA_d, renL_ds (l := l)]; rfl

theorem frzL_ds {m ds} : ∀ {l : List D}, frzL m ds (l.map A.d) = l.map A.d
  | [] => by simp [frzL]
  | x :: l => by rw [List.map_cons, frzL, frzA, frzL_ds (l := l)]

/-- Bytes are put that lie in a box. -/
theorem cs_putb {b xs : List Int} {cs : List A} {n o : Nat} (hr : b.length + xs.length ≤ roomB) (hn : xs.length = n) (ho : o + n ≤ cs.length) (hren : ∀ ρ, renL ρ cs = some cs) (hcs : (cs.drop o).take n = yc xs) {R : Out → Prop} (h : R (.ret [] [(0, [.d (.sl 1 (bys (b ++ xs)))]), (1, cs)] [(.b 0 0, 1)])) :
    CS Tryd.prog 20 [.ptr 0 0, .bsl 1 o n n] [(0, [.d (.sl 1 (bys b))]), (1, cs)] [(.b 0 0, 1)] R := by
  refine CS.go Tryd.func20 k20 r20 (by kernel_rfl) ?_
  unfold c20
  unfold roomB at hr
  simp (maxSteps := 10000000) -dsimp only [go_sem, simprocAttr]
  refine kImp_intro (fun h1 => ?_)
  subst hn
  have hm : xs.length * 1 = xs.length := Nat.mul_one _
  simp (maxSteps := 10000000) -dsimp only [go_sem, simprocAttr]
  refine kAnd_intro (And.intro ho (by omega)) ?_
  simp (maxSteps := 10000000) -dsimp only [go_sem, simprocAttr, hcs, hm, toDs_yc, chunk_u8]
  refine kAnd_intro (by omega) ?_
  simp (maxSteps := 10000000) -dsimp only [go_sem, simprocAttr]
  refine kAnd_intro (by omega) ?_
  simp (maxSteps := 10000000) -dsimp only [go_sem, simprocAttr, hren]
  rw [← bys_app]
  exact h

/-- excise/efile.Pack -/
def c7 : AC :=
  .seq (.reg [⟨(some 1), none, .op (.box 35 (.t 0))⟩,
    ⟨(some 2), none, .op (.nil 1)⟩,
    ⟨(some 3), none, .op (.mv (.c (.d (.int .i64 0))) true)⟩]) <|
  .seq (.seq (.reg [⟨(some 7), none, .op (.load true 35 (.t 1) false)⟩,
    ⟨(some 8), none, .call 12 [(.t 7)] none⟩,
    ⟨(some 4), none, .op (.mv (.t 8) true)⟩]) <|
  .seq (.reg [⟨(some 9), none, .op (.mv (.t 4) false)⟩,
    ⟨(some 10), none, .op (.bin .neq (.t 9) (.c (.d (.int .i64 0))))⟩]) <|
  .cond (.t 10) (.seq (.reg [⟨(some 11), none, .op (.mv (.t 4) false)⟩,
      ⟨(some 2), none, .op (.nil 1)⟩,
      ⟨(some 3), none, .op (.mv (.t 11) true)⟩]) <|
    .ret) (.skip)) <|
  .seq (.reg [⟨(some 12), none, .op (.bslf 1 4 [.int .u8 0] [(0, 1, (.c (.d (.int .u8 69)))), (1, 1, (.c (.d (.int .u8 88)))), (2, 1, (.c (.d (.int .u8 67)))), (3, 1, (.c (.d (.int .u8 49))))])⟩,
    ⟨(some 13), none, .op (.cvl (.t 12))⟩,
    ⟨(some 14), none, .op (.build [.d (.sl 1 [])] [(0, 1, (.t 13))])⟩,
    ⟨(some 15), none, .op (.box 1 (.t 14))⟩,
    ⟨(some 5), none, .op (.mv (.t 15) true)⟩]) <|
  .seq (.reg [⟨(some 16), none, .op (.mv (.t 5) false)⟩,
    ⟨(some 17), none, .op (.fa 0 (.t 1))⟩,
    ⟨(some 18), none, .op (.sla 32 1 (.t 17) none none)⟩,
    ⟨(some 19), none, .call 20 [(.t 16), (.t 18)] none⟩]) <|
  .seq (.reg [⟨(some 20), none, .op (.mv (.t 5) false)⟩,
    ⟨(some 21), none, .op (.fa 32 (.t 1))⟩,
    ⟨(some 22), none, .op (.load true 3 (.t 21) false)⟩,
    ⟨(some 23), none, .call 21 [(.t 20), (.t 22)] none⟩]) <|
  .seq (.reg [⟨(some 24), none, .op (.mv (.t 5) false)⟩,
    ⟨(some 25), none, .op (.nilck (.t 24))⟩,
    ⟨(some 26), none, .op (.fa 0 (.t 25))⟩,
    ⟨(some 27), none, .op (.load false 1 (.t 26) false)⟩,
    ⟨(some 28), none, .op (.bslc 1 1 [.sl 1 []] [(0, 1, (.t 27))])⟩,
    ⟨(some 29), none, .call 22 [(.t 28)] none⟩,
    ⟨(some 6), none, .op (.alloc [.d (.int .u8 0), .d (.int .u8 0), .d (.int .u8 0), .d (.int .u8 0), .d (.int .u8 0), .d (.int .u8 0), .d (.int .u8 0), .d (.int .u8 0), .d (.int .u8 0), .d (.int .u8 0), .d (.int .u8 0), .d (.int .u8 0), .d (.int .u8 0), .d (.int .u8 0), .d (.int .u8 0), .d (.int .u8 0), .d (.int .u8 0), .d (.int .u8 0), .d (.int .u8 0), .d (.int .u8 0), .d (.int .u8 0), .d (.int .u8 0), .d (.int .u8 0), .d (.int .u8 0), .d (.int .u8 0), .d (.int .u8 0), .d (.int .u8 0), .d (.int .u8 0), .d (.int .u8 0), .d (.int .u8 0), .d (.int .u8 0), .d (.int .u8 0)] [])⟩,
    ⟨none, none, .op (.store 32 (.t 6) (.t 29))⟩]) <|
  .seq (.reg [⟨(some 30), none, .op (.mv (.t 5) false)⟩,
    ⟨(some 31), none, .op (.sla 32 1 (.t 6) none none)⟩,
    ⟨(some 32), none, .call 20 [(.t 30), (.t 31)] none⟩]) <|
  .seq (.seq (.reg [⟨(some 33), none, .op (.mv (.t 5) false)⟩,
    ⟨(some 34), none, .op (.nilck (.t 33))⟩,
    ⟨(some 35), none, .op (.fa 0 (.t 34))⟩,
    ⟨(some 36), none, .op (.load false 1 (.t 35) false)⟩,
    ⟨(some 37), none, .op (.len (.t 36))⟩,
    ⟨(some 38), none, .op (.bin .gtr (.t 37) (.c (.d (.int .i64 4194304))))⟩]) <|
  .cond (.t 38) (.seq (.reg [⟨(some 2), none, .op (.nil 1)⟩,
      ⟨(some 3), none, .op (.mv (.c (.d (.int .i64 3))) true)⟩]) <|
    .ret) (.skip)) <|
  .seq (.reg [⟨(some 39), none, .op (.mv (.t 5) false)⟩,
    ⟨(some 40), none, .op (.nilck (.t 39))⟩,
    ⟨(some 41), none, .op (.fa 0 (.t 40))⟩,
    ⟨(some 42), none, .op (.load false 1 (.t 41) false)⟩,
    ⟨(some 2), none, .op (.mv (.t 42) true)⟩,
    ⟨(some 3), none, .op (.mv (.c (.d (.int .i64 0))) true)⟩]) <|
  .ret
theorem k7 : Tryd.f7.body.bind (comp Tryd.prog [] Tryd.f7.ntmps) = some c7 := by kernel_rfl
theorem r7 : cRes Tryd.prog Tryd.f7.results.toList = some [.t 2, .t 3] := by kernel_rfl

/-- A return's bytes, but for the sum. -/
def bodyB (dig : List Int) (f : Fil) : List Int := [69, 88, 67, 49] ++ dig ++ packF f
def fileB (dig : List Int) (f : Fil) : List Int := bodyB dig f ++ shaF (bodyB dig f)
/-- What packing answers. -/
def pakR (dig : List Int) (f : Fil) : Except Int (List Int) :=
  if okRet f = true then (if (fileB dig f).length ≤ 4194304 then .ok (fileB dig f) else .error 3) else .error 250
def pakO (dig : List Int) (f : Fil) : Out := match pakR dig f with
  | .ok b => .ret [.d (.sl 1 (bys b)), .d (.int .i64 0)] [] []
  | .error e => .ret [.d (.sl 1 []), .d (.int .i64 e)] [] []

theorem cs_pack {dig : List Int} (hd : dig.length = 32) {f : Fil} {R : Out → Prop} (h : R (pakO dig f)) :
    CS Tryd.prog 7 [.agg ((dig.map (D.int .u8) ++ encF f).map .d)] [] [] R := by
  refine CS.go0 Tryd.func7 k7 r7 (by kernel_rfl) ?_
  unfold c7
  obtain ⟨v, l, k⟩ := f
  have hdr : ((dig.map (D.int .u8) ++ encF (.mk v l k)).map A.d).drop 32 = (encF (.mk v l k)).map .d := by
    rw [List.map_append]
    exact List.drop_left' (by simp [hd])
  have hlen : ((dig.map (D.int .u8) ++ encF (.mk v l k)).map A.d).length = 35 := by simp [hd, encF]
  generalize hcs : ((dig.map (D.int .u8) ++ encF (.mk v l k)).map A.d) = cs at hdr hlen
  have hren : ∀ ρ, renL ρ cs = some cs := fun ρ => by rw [← hcs]; exact renL_ds
  have hfrz : ∀ m ds, frzL m ds cs = cs := fun m ds => by rw [← hcs]; exact frzL_ds
  have htk : cs.take 35 = cs := List.take_of_length_le (by omega)
  simp (maxSteps := 10000000) -dsimp only [go_sem, simprocAttr, hdr, hlen, htk, hren, encF]
  have chk : ∀ R : Out → Prop, R (.ret [.d (.int .i64 (if okRet (.mk v l k) = true then 0 else 250))] [] []) → CS Tryd.prog 12 [.agg cs] [] [] R := fun R h => by rw [← hcs]; exact cs_check hd h
  refine kCS_intro (chk _ ?_)
  cases hk : okRet (.mk v l k) with
  | false =>
    have h : R (.ret [.d (.sl 1 []), .d (.int .i64 250)] [] []) := by simpa [pakO, pakR, hk] using h
    simp (maxSteps := 10000000) -dsimp only [go_sem, simprocAttr, hk]
    exact h
  | true =>
  have hsl : (cs.drop 0).take 32 = yc dig := by
    rw [← hcs, List.map_append, List.drop_zero, map_yc]
    exact List.take_left' (by simp [hd, yc])
  simp (maxSteps := 10000000) -dsimp only [go_sem, simprocAttr, hk, hren, hfrz]
  refine kCS_intro (cs_putb (b := [69, 88, 67, 49]) (xs := dig) (by simp [hd, roomB]) hd (by omega) hren hsl ?_)
  simp (maxSteps := 10000000) -dsimp only [go_sem, simprocAttr, hren, hdr, hlen, encF]
  have hB := (okRet_n hk).2.2
  have hb0 : (69 :: 88 :: 67 :: 49 :: dig : List Int).length = 36 := by simp [hd]
  have eb : 69 :: 88 :: 67 :: 49 :: dig ++ packF (.mk v l k) = bodyB dig (.mk v l k) := by simp [bodyB]
  have hbl : (bodyB dig (.mk v l k)).length = 36 + (packF (.mk v l k)).length := by rw [← eb, List.length_append, hb0]
  refine kCS_intro (cs_wrow (.mk v l k) (69 :: 88 :: 67 :: 49 :: dig) _ (by rw [eb, hbl]; unfold roomB; omega) ?_)
  rw [eb]
  have sm : ∀ R : Out → Prop, R (.ret [.agg (yc (shaF (bodyB dig (.mk v l k))))] [] []) → CS Tryd.prog 22 [.d (.sl 1 [[.sl 1 (bys (bodyB dig (.mk v l k)))]])] [] [] R := fun R h => cs_sum h
  have hf : fileB dig (.mk v l k) = bodyB dig (.mk v l k) ++ shaF (bodyB dig (.mk v l k)) := rfl
  have hS := shaF_len (b := bodyB dig (.mk v l k))
  generalize bodyB dig (.mk v l k) = B at sm hf hS hbl
  simp (maxSteps := 10000000) -dsimp only [go_sem, simprocAttr]
  refine kCS_intro (sm _ ?_)
  generalize shaF B = S at hf hS
  have hSt : S.take 32 = S := List.take_of_length_le (by omega)
  simp (maxSteps := 10000000) -dsimp only [go_sem, simprocAttr, hS, hSt, lay_all]
  refine kCS_intro (cs_putb (b := B) (xs := S) (by unfold roomB; omega) hS (by rw [yc_len, hS]; exact Nat.le_refl _) (fun ρ => renL_yc) (by rw [List.drop_zero, yc_take, hSt]) ?_)
  simp (maxSteps := 10000000) -dsimp only [go_sem, simprocAttr, hren]
  refine kImp_intro (fun hl => ?_)
  simp (maxSteps := 10000000) -dsimp only [go_sem, simprocAttr]
  refine kIf_intro (fun h2 => ?_) (fun h2 => ?_)
  · simp (maxSteps := 10000000) -dsimp only [go_sem, simprocAttr]
    have h : R (.ret [.d (.sl 1 []), .d (.int .i64 3)] [] []) := by
      simp only [List.length_append, decide_eq_true_eq] at h2
      simp only [pakO, pakR, hk, hf, if_true, List.length_append] at h
      rw [if_neg (by omega)] at h
      exact h
    exact h
  · simp (maxSteps := 10000000) -dsimp only [go_sem, simprocAttr]
    have h : R (.ret [.d (.sl 1 (bys (B ++ S))), .d (.int .i64 0)] [] []) := by
      simp only [List.length_append, decide_eq_false_iff_not] at h2
      simp only [pakO, pakR, hk, hf, if_true, List.length_append] at h
      rw [if_pos (by omega)] at h
      exact h
    exact h

end Go.Vx

/- Plain law: which faults reading has. -/
namespace Go.Vx
set_option linter.unusedVariables false
set_option linter.unusedSimpArgs false
open Go Go.Proofs
set_option linter.unusedSimpArgs false
set_option linter.unusedVariables false
set_option maxRecDepth 10000
set_option maxHeartbeats 1000000

def isErr (e : Int) : Prop := e = 251 ∨ e = 252

theorem numF_err {L : List Int} {e : Int} (h : numF L = .err e) : isErr e := by
  unfold isErr
  match L, h with
  | [], h => simp only [numF] at h; cases h; exact .inl rfl
  | [s], h => simp only [numF] at h; split at h <;> cases h <;> simp
  | s :: m :: L, h =>
    simp only [numF] at h
    split at h
    · cases h; simp
    · split at h
      · cases h; simp
      · split at h
        · cases h; simp
        · split at h <;> cases h; simp

theorem valF_err {L : List Int} {e : Int} (h : valF L = .err e) : isErr e := by
  match L, h with
  | [], h => cases h; exact .inl rfl
  | k :: L, h =>
    simp only [valF] at h
    split at h
    · cases h
    · split at h
      · split at h
        · cases h
        · rename_i e' hn; cases h; exact numF_err hn
      · split at h
        · split at h
          · cases h; exact .inl rfl
          · split at h <;> cases h
            exact .inr rfl
        · split at h
          · split at h
            · cases h; exact .inl rfl
            · split at h <;> cases h
              exact .inl rfl
          · split at h
            · split at h <;> cases h
              exact .inl rfl
            · cases h; exact .inr rfl

theorem valsN_err : ∀ {n : Nat} {L : List Int} {acc : List Val} {e : Int}, valsN n L acc = .err e → isErr e
  | 0, L, acc, e, h => by cases h
  | n + 1, L, acc, e, h => by
    simp only [valsN] at h
    split at h
    · exact valsN_err h
    · rename_i e' hv; cases h; exact valF_err hv
theorem valuesF_err {L : List Int} {e : Int} (h : valuesF L = .err e) : isErr e := by
  match L, h with
  | [], h => cases h; exact .inl rfl
  | n :: L, h => exact valsN_err h

theorem kidN_err {f : List Int → PR Fil} (hf : ∀ {L e}, f L = .err e → isErr e) : ∀ {n : Nat} {L : List Int} {acc : List Fil} {e : Int}, kidN f n L acc = .err e → isErr e
  | 0, L, acc, e, h => by cases h
  | n + 1, L, acc, e, h => by
    simp only [kidN] at h
    split at h
    · exact kidN_err hf h
    · rename_i e' hv; cases h; exact hf hv
theorem kidsN_err {f : List Int → PR Fil} (hf : ∀ {L e}, f L = .err e → isErr e) : ∀ {n : Nat} {L : List Int} {acc : List (List Fil)} {e : Int}, kidsN f n L acc = .err e → isErr e
  | 0, L, acc, e, h => by cases h
  | n + 1, [], acc, e, h => by cases h; exact .inl rfl
  | n + 1, [_], acc, e, h => by cases h; exact .inl rfl
  | n + 1, a :: b :: L, acc, e, h => by
    simp only [kidsN] at h
    split at h
    · exact kidsN_err hf h
    · rename_i e' hv; cases h; exact kidN_err hf hv
theorem rowF_err : ∀ {d : Nat} {L : List Int} {e : Int}, rowF d L = .err e → isErr e
  | 0, L, e, h => by cases h; exact .inl rfl
  | d + 1, L, e, h => by
    simp only [rowF] at h
    split at h
    · rename_i e' hv; cases h; exact valuesF_err hv
    · split at h
      · rename_i e' hv; cases h; exact valuesF_err hv
      · split at h
        · cases h; exact .inl rfl
        · split at h
          · rename_i e' hv; cases h; exact kidsN_err rowF_err hv
          · cases h

end Go.Vx

/- Plain law: a number's bytes and its limbs. -/
namespace Go.Vx
set_option linter.unusedVariables false
set_option linter.unusedSimpArgs false
open Go Go.Proofs
set_option linter.unusedSimpArgs false
set_option linter.unusedVariables false
set_option maxRecDepth 10000
set_option maxHeartbeats 1000000

def isB (l : List Int) : Prop := ∀ x, x ∈ l → 0 ≤ x ∧ x < 256
theorem isB_cons {x : Int} {l : List Int} : isB (x :: l) ↔ (0 ≤ x ∧ x < 256) ∧ isB l := by simp [isB]
theorem isB_app {a b : List Int} : isB (a ++ b) ↔ isB a ∧ isB b := by
  simp only [isB, List.mem_append]
  exact ⟨fun h => ⟨fun x hx => h x (.inl hx), fun x hx => h x (.inr hx)⟩, fun h x hx => hx.elim (h.1 x) (h.2 x)⟩

/-- The number that bytes are, the highest first. -/
def natB : List Int → Nat
  | [] => 0
  | x :: l => x.toNat * 256 ^ l.length + natB l

theorem natB_app {a b : List Int} : natB (a ++ b) = natB a * 256 ^ b.length + natB b := by
  induction a with
  | nil => simp [natB]
  | cons x a ih =>
    rw [List.cons_append, natB, natB, ih, List.length_append, Nat.pow_add, Nat.add_mul, Nat.mul_assoc, Nat.add_assoc]

theorem natB_lt {l : List Int} (h : isB l) : natB l < 256 ^ l.length := by
  induction l with
  | nil => simp [natB]
  | cons x l ih =>
    obtain ⟨h1, h2⟩ := isB_cons.1 h
    have := ih h2
    rw [natB, List.length_cons, Nat.pow_succ]
    have hx : x.toNat ≤ 255 := by omega
    have := Nat.mul_le_mul_right (256 ^ l.length) hx
    omega

theorem natB_inj : ∀ {a b : List Int}, isB a → isB b → a.length = b.length → natB a = natB b → a = b
  | [], [], _, _, _, _ => rfl
  | x :: a, y :: b, ha, hb, hl, h => by
    obtain ⟨a1, a2⟩ := isB_cons.1 ha
    obtain ⟨b1, b2⟩ := isB_cons.1 hb
    have hl' : a.length = b.length := by simpa using hl
    rw [natB, natB, hl'] at h
    have la := natB_lt a2
    have lb := natB_lt b2
    rw [hl'] at la
    have hp : 0 < 256 ^ b.length := Nat.pow_pos (by decide)
    have hxy : x.toNat = y.toNat := by
      rcases Nat.lt_trichotomy x.toNat y.toNat with h1 | h1 | h1
      · have : (x.toNat + 1) * 256 ^ b.length ≤ y.toNat * 256 ^ b.length := Nat.mul_le_mul_right _ h1
        rw [Nat.add_mul] at this
        omega
      · exact h1
      · have : (y.toNat + 1) * 256 ^ b.length ≤ x.toNat * 256 ^ b.length := Nat.mul_le_mul_right _ h1
        rw [Nat.add_mul] at this
        omega
    have : x = y := by omega
    subst this
    have hn : natB a = natB b := by omega
    rw [natB_inj a2 b2 hl' hn]

/-- No zero stands first. -/
def fst0 : List Int → Prop
  | [] => True
  | x :: _ => x ≠ 0

theorem natB_ge {l : List Int} (h : isB l) (h0 : fst0 l) : l = [] ∨ 256 ^ (l.length - 1) ≤ natB l := by
  cases l with
  | nil => exact .inl rfl
  | cons x l =>
    right
    obtain ⟨h1, _⟩ := isB_cons.1 h
    have h0 : x ≠ 0 := h0
    rw [natB, List.length_cons, Nat.add_sub_cancel]
    have : 1 ≤ x.toNat := by omega
    have := Nat.mul_le_mul_right (256 ^ l.length) this
    omega

theorem natB_len {a b : List Int} (ha : isB a) (hb : isB b) (fa : fst0 a) (fb : fst0 b) (h : natB a = natB b) : a.length = b.length := by
  have one : ∀ {a b : List Int}, isB a → isB b → fst0 b → natB a = natB b → b.length ≤ a.length := by
    intro a b ha hb fb h
    rcases natB_ge hb fb with rfl | hge
    · simp
    · have := natB_lt ha
      rw [h] at this
      have hlt : 256 ^ (b.length - 1) < 256 ^ a.length := Nat.lt_of_le_of_lt hge this
      have := (Nat.pow_lt_pow_iff_right (by decide : 1 < 256)).1 hlt
      omega
  have := one ha hb fb h
  have := one hb ha fa h.symm
  omega

theorem natB_uni {a b : List Int} (ha : isB a) (hb : isB b) (fa : fst0 a) (fb : fst0 b) (h : natB a = natB b) : a = b :=
  natB_inj ha hb (natB_len ha hb fa fb h) h

/-! ### Bytes of a number -/

theorem trim0_natB : ∀ {l : List Int}, natB (trim0 l) = natB l
  | [] => rfl
  | x :: l => by
    show natB ((x :: l).dropWhile (· == 0)) = _
    rw [List.dropWhile_cons]
    split
    · rename_i h
      have : x = 0 := by simpa using h
      subst this
      rw [natB]
      have := trim0_natB (l := l)
      unfold trim0 at this
      rw [this]; simp
    · rfl
theorem trim0_isB {l : List Int} (h : isB l) : isB (trim0 l) := fun x hx => h x ((List.dropWhile_sublist _).subset hx)
theorem trim0_fst : ∀ {l : List Int}, fst0 (trim0 l)
  | [] => trivial
  | x :: l => by
    show fst0 ((x :: l).dropWhile (· == 0))
    rw [List.dropWhile_cons]
    split
    · exact trim0_fst (l := l)
    · rename_i h
      show x ≠ 0
      simpa using h

theorem be_eq (n : Nat) : be (n : Int) = [((n / 2 ^ 56 % 256 : Nat) : Int), ((n / 2 ^ 48 % 256 : Nat) : Int), ((n / 2 ^ 40 % 256 : Nat) : Int), ((n / 2 ^ 32 % 256 : Nat) : Int),
    ((n / 2 ^ 24 % 256 : Nat) : Int), ((n / 2 ^ 16 % 256 : Nat) : Int), ((n / 2 ^ 8 % 256 : Nat) : Int), ((n % 256 : Nat) : Int)] := by
  have one : ∀ k : Nat, IntKind.u8.wrap ((n : Int).fdiv (2 ^ k)) = ((n / 2 ^ k % 256 : Nat) : Int) := by
    intro k
    have e : (2 : Int) ^ k = ((2 ^ k : Nat) : Int) := by rw [Int.natCast_pow]; rfl
    rw [wrap_u8, e, ← Int.ofNat_fdiv, Int.natCast_emod]
    rfl
  have h0 := one 0
  simp only [be, List.range, List.range.loop, List.map_cons, List.map_nil]
  refine congr (congrArg _ (one 56)) (congr (congrArg _ (one 48)) (congr (congrArg _ (one 40)) (congr (congrArg _ (one 32)) (congr (congrArg _ (one 24)) (congr (congrArg _ (one 16)) (congr (congrArg _ (one 8)) (congr (congrArg _ ?_) rfl)))))))
  simpa using h0

theorem be_isB (n : Nat) : isB (be (n : Int)) := by
  rw [be_eq]
  intro x hx
  simp only [List.mem_cons, List.not_mem_nil, or_false] at hx
  rcases hx with rfl | rfl | rfl | rfl | rfl | rfl | rfl | rfl <;> omega
theorem be_natB {n : Nat} (h : n < 18446744073709551616) : natB (be (n : Int)) = n := by
  rw [be_eq]
  simp only [natB, List.length_cons, List.length_nil, Int.toNat_natCast]
  omega

/-- The number of four limbs. -/
def valN (n0 n1 n2 n3 : Nat) : Nat := n0 + n1 * 2 ^ 64 + n2 * 2 ^ 128 + n3 * 2 ^ 192

theorem digits_natB {n0 n1 n2 n3 : Nat} (h0 : n0 < 18446744073709551616) (h1 : n1 < 18446744073709551616) (h2 : n2 < 18446744073709551616) (h3 : n3 < 18446744073709551616) :
    natB (digits n0 n1 n2 n3) = valN n0 n1 n2 n3 ∧ isB (digits n0 n1 n2 n3) ∧ fst0 (digits n0 n1 n2 n3) := by
  refine ⟨?_, ?_, trim0_fst⟩
  · rw [digits, trim0_natB, natB_app, natB_app, natB_app, be_natB h0, be_natB h1, be_natB h2, be_natB h3, valN]
    have l0 : (be (n0 : Int)).length = 8 := by simp [be]
    have l1 : (be (n1 : Int)).length = 8 := by simp [be]
    have l2 : (be (n2 : Int)).length = 8 := by simp [be]
    rw [l0, l1, l2]
    omega
  · exact trim0_isB (isB_app.2 ⟨isB_app.2 ⟨isB_app.2 ⟨be_isB _, be_isB _⟩, be_isB _⟩, be_isB _⟩)

end Go.Vx

/- Plain law: the limbs of bytes. -/
namespace Go.Vx
set_option linter.unusedVariables false
set_option linter.unusedSimpArgs false
open Go Go.Proofs
set_option linter.unusedSimpArgs false
set_option linter.unusedVariables false
set_option maxRecDepth 10000
set_option maxHeartbeats 1000000

def lim (j X : Nat) : Nat := X / 2 ^ (64 * j) % 2 ^ 64
def lims4 (X : Nat) : List Int := [(lim 0 X : Int), (lim 1 X : Int), (lim 2 X : Int), (lim 3 X : Int)]

theorem lim_or {j X Y : Nat} : lim j (X ||| Y) = lim j X ||| lim j Y := by
  rw [lim, lim, lim, Nat.or_div_two_pow, Nat.or_mod_two_pow]

theorem lim_lt {j X : Nat} : lim j X < 18446744073709551616 := Nat.mod_lt _ (by decide)

theorem lim_sh {c q s j : Nat} (hc : c < 256) (hs : s ≤ 56) : lim j (c * 2 ^ (64 * q + s)) = if j = q then c * 2 ^ s else 0 := by
  have hcs : c * 2 ^ s < 2 ^ 64 := by
    calc c * 2 ^ s < 256 * 2 ^ s := Nat.mul_lt_mul_of_pos_right hc (Nat.pow_pos (by decide))
      _ ≤ 256 * 2 ^ 56 := Nat.mul_le_mul_left _ (Nat.pow_le_pow_right (by decide) hs)
      _ = 2 ^ 64 := by decide
  unfold lim
  rcases Nat.lt_trichotomy j q with h | h | h
  · rw [if_neg (by omega)]
    obtain ⟨e, rfl⟩ : ∃ e, q = j + 1 + e := ⟨q - j - 1, by omega⟩
    have : c * 2 ^ (64 * (j + 1 + e) + s) = (c * 2 ^ (64 * e + s) * 2 ^ 64) * 2 ^ (64 * j) := by
      rw [Nat.mul_assoc, Nat.mul_assoc, ← Nat.pow_add, ← Nat.pow_add]
      congr 2; omega
    rw [this, Nat.mul_div_cancel _ (Nat.pow_pos (by decide)), Nat.mul_mod_left]
  · subst h
    rw [if_pos rfl]
    have : c * 2 ^ (64 * j + s) = (c * 2 ^ s) * 2 ^ (64 * j) := by
      rw [Nat.mul_assoc, ← Nat.pow_add]
      congr 2; omega
    rw [this, Nat.mul_div_cancel _ (Nat.pow_pos (by decide)), Nat.mod_eq_of_lt hcs]
  · rw [if_neg (by omega)]
    have h1 : c * 2 ^ (64 * q + s) < 2 ^ (64 * j) := by
      have : c * 2 ^ (64 * q + s) = (c * 2 ^ s) * 2 ^ (64 * q) := by
        rw [Nat.mul_assoc, ← Nat.pow_add, Nat.add_comm]
      rw [this]
      calc (c * 2 ^ s) * 2 ^ (64 * q) < 2 ^ 64 * 2 ^ (64 * q) := Nat.mul_lt_mul_of_pos_right hcs (Nat.pow_pos (by decide))
        _ = 2 ^ (64 + 64 * q) := by rw [← Nat.pow_add]
        _ ≤ 2 ^ (64 * j) := Nat.pow_le_pow_right (by decide) (by omega)
    rw [Nat.div_eq_of_lt h1]

theorem or_u64 {a b : Nat} (ha : a < 18446744073709551616) (hb : b < 18446744073709551616) : ibits .or .u64 (a : Int) (b : Int) = ((a ||| b : Nat) : Int) := by
  show IntKind.u64.wrap ((BitVec.ofInt 64 (a : Int) ||| BitVec.ofInt 64 (b : Int)).toNat : Int) = _
  rw [BitVec.ofInt_natCast, BitVec.ofInt_natCast, BitVec.toNat_or, BitVec.toNat_ofNat, BitVec.toNat_ofNat, Nat.mod_eq_of_lt (by omega), Nat.mod_eq_of_lt (by omega), wrap_u64]
  have : a ||| b < 2 ^ 64 := Nat.or_lt_two_pow (by omega) (by omega)
  omega

theorem orAt_lims {X p : Nat} {c : Int} (hp : p < 32) (hc : 0 ≤ c ∧ c < 256) : orAt (lims4 X) (8 * p) c = lims4 (X ||| c.toNat * 2 ^ (8 * p)) := by
  obtain ⟨C, rfl⟩ : ∃ C : Nat, c = C := ⟨c.toNat, by omega⟩
  have hC : C < 256 := by omega
  have hq : 8 * p = 64 * (8 * p / 64) + 8 * p % 64 := by omega
  have hs : 8 * p % 64 ≤ 56 := by omega
  have hq4 : 8 * p / 64 < 4 := by omega
  generalize 8 * p / 64 = q at hq hq4
  generalize 8 * p % 64 = s at hq hs
  have hdiv : 8 * p / 64 = q := by omega
  have hmod : 8 * p % 64 = s := by omega
  have hcs : C * 2 ^ s < 2 ^ 64 := by
    calc C * 2 ^ s < 256 * 2 ^ s := Nat.mul_lt_mul_of_pos_right hC (Nat.pow_pos (by decide))
      _ ≤ 256 * 2 ^ 56 := Nat.mul_le_mul_left _ (Nat.pow_le_pow_right (by decide) hs)
      _ = 2 ^ 64 := by decide
  have hw : IntKind.u64.wrap (IntKind.u64.wrap (C : Int) * 2 ^ (min s 64)) = ((C * 2 ^ s : Nat) : Int) := by
    have e1 : IntKind.u64.wrap (C : Int) = (C : Int) := by rw [wrap_u64]; omega
    have e2 : (C : Int) * 2 ^ (min s 64) = ((C * 2 ^ s : Nat) : Int) := by
      rw [Nat.min_eq_left (by omega), Int.natCast_mul, Int.natCast_pow]; rfl
    rw [e1, e2, wrap_u64]
    generalize C * 2 ^ s = y at hcs
    omega
  unfold orAt
  rw [hdiv, hmod, hw, Int.toNat_natCast, hq]
  obtain rfl | rfl | rfl | rfl : q = 0 ∨ q = 1 ∨ q = 2 ∨ q = 3 := by omega
  all_goals
    simp only [lims4, lim_or, lim_sh hC hs]
    generalize C * 2 ^ s = y at hcs ⊢
    simp
    rw [or_u64 lim_lt (by omega)]

theorem limbsF_lims {l : List Int} (hl : isB l) (h32 : l.length ≤ 32) : ∀ k : Nat, k ≤ l.length → limbsF l k = lims4 (natB (l.take k) * 2 ^ (8 * (l.length - k)))
  | 0, _ => by
    rw [limbsF_zero, List.take_zero, natB, Nat.zero_mul]
    simp [lims4, lim]
  | k + 1, hk => by
    obtain ⟨c, hc⟩ : ∃ c, l[k]? = some c := ⟨_, List.getElem?_eq_getElem hk⟩
    have hcb := hl c (List.mem_of_getElem? hc)
    have hg : l.getD k 0 = c := by rw [List.getD_eq_getElem?_getD, hc]; rfl
    rw [limbsF_succ, limbsF_lims hl h32 k (by omega), hg, orAt_lims (by omega) hcb, List.take_add_one, hc]
    congr 1
    simp only [Option.toList_some, natB_app, natB, List.length_cons, List.length_nil]
    have e1 : 8 * (l.length - k) = 8 + 8 * (l.length - 1 - k) := by omega
    have e2 : 8 * (l.length - (k + 1)) = 8 * (l.length - 1 - k) := by omega
    rw [e1, e2]
    generalize 8 * (l.length - 1 - k) = t
    generalize natB (l.take k) = a
    have hC : c.toNat < 256 := by omega
    generalize c.toNat = C at hC
    have e3 : a * 2 ^ (8 + t) = (a * 256) <<< t := by rw [Nat.shiftLeft_eq, Nat.pow_add, ← Nat.mul_assoc]
    have e4 : C * 2 ^ t = C <<< t := by rw [Nat.shiftLeft_eq]
    have e5 : (a * 256) ||| C = a * 256 + C := by
      have := Nat.shiftLeft_add_eq_or_of_lt (i := 8) (b := C) (by omega) a
      rw [Nat.shiftLeft_eq] at this
      exact this.symm
    rw [e3, e4, ← Nat.shiftLeft_or_distrib, e5, Nat.shiftLeft_eq]
    simp

theorem limbsF_all {l : List Int} (hl : isB l) (h32 : l.length ≤ 32) : limbsF l l.length = lims4 (natB l) := by
  rw [limbsF_lims hl h32 _ (Nat.le_refl _), List.take_length, Nat.sub_self]
  simp

theorem lims4_val {n0 n1 n2 n3 : Nat} (h0 : n0 < 18446744073709551616) (h1 : n1 < 18446744073709551616) (h2 : n2 < 18446744073709551616) (h3 : n3 < 18446744073709551616) :
    lims4 (valN n0 n1 n2 n3) = [(n0 : Int), (n1 : Int), (n2 : Int), (n3 : Int)] := by
  have e0 : lim 0 (valN n0 n1 n2 n3) = n0 := by simp only [lim, valN]; omega
  have e1 : lim 1 (valN n0 n1 n2 n3) = n1 := by simp only [lim, valN]; omega
  have e2 : lim 2 (valN n0 n1 n2 n3) = n2 := by simp only [lim, valN]; omega
  have e3 : lim 3 (valN n0 n1 n2 n3) = n3 := by simp only [lim, valN]; omega
  rw [lims4, e0, e1, e2, e3]

theorem valN_lims {X : Nat} (h : X < 2 ^ 256) : valN (lim 0 X) (lim 1 X) (lim 2 X) (lim 3 X) = X := by
  simp only [lim, valN]
  omega

/-- What is written is read. -/
theorem limbs_digits {n0 n1 n2 n3 : Nat} (h0 : n0 < 18446744073709551616) (h1 : n1 < 18446744073709551616) (h2 : n2 < 18446744073709551616) (h3 : n3 < 18446744073709551616) :
    limbsF (digits n0 n1 n2 n3) (digits n0 n1 n2 n3).length = [(n0 : Int), (n1 : Int), (n2 : Int), (n3 : Int)] := by
  obtain ⟨a, b, c⟩ := digits_natB h0 h1 h2 h3
  rw [limbsF_all b digits_len, a, lims4_val h0 h1 h2 h3]

/-- What is read is written. -/
theorem digits_limbs {l : List Int} (hl : isB l) (h32 : l.length ≤ 32) (h0 : fst0 l) :
    digits ((limbsF l l.length).getD 0 0) ((limbsF l l.length).getD 1 0) ((limbsF l l.length).getD 2 0) ((limbsF l l.length).getD 3 0) = l := by
  rw [limbsF_all hl h32]
  show digits (lim 0 (natB l) : Int) (lim 1 (natB l) : Int) (lim 2 (natB l) : Int) (lim 3 (natB l) : Int) = l
  obtain ⟨a, b, c⟩ := digits_natB (lim_lt (j := 0) (X := natB l)) (lim_lt (j := 1) (X := natB l)) (lim_lt (j := 2) (X := natB l)) (lim_lt (j := 3) (X := natB l))
  refine natB_uni b hl c h0 ?_
  rw [a, valN_lims]
  have := natB_lt hl
  have : 256 ^ l.length ≤ 256 ^ 32 := Nat.pow_le_pow_right (by decide) h32
  have e : (256 : Nat) ^ 32 = 2 ^ 256 := by decide
  omega

end Go.Vx

/- Plain law: a value's bytes, there and back. -/
namespace Go.Vx
set_option linter.unusedVariables false
set_option linter.unusedSimpArgs false
open Go Go.Proofs
set_option linter.unusedSimpArgs false
set_option linter.unusedVariables false
set_option maxRecDepth 10000
set_option maxHeartbeats 1000000

/-- The numbers of a value are as its types allow. -/
def rngV (v : Val) : Prop := (0 ≤ v.n0 ∧ v.n0 < 18446744073709551616) ∧ (0 ≤ v.n1 ∧ v.n1 < 18446744073709551616) ∧ (0 ≤ v.n2 ∧ v.n2 < 18446744073709551616) ∧ (0 ≤ v.n3 ∧ v.n3 < 18446744073709551616)

theorem u8_id {x : Int} (h : 0 ≤ x ∧ x < 256) : u8 x = x := by
  rw [u8, wrap_u8]; omega

/-- The byte of sign and scale. -/
def sgn (neg : Bool) (scale : Int) : Int := if neg = true then ibits .or .u8 (u8 scale) 32 else u8 scale

theorem sgn_all : ∀ s : Fin 32, sgn false (s.val : Int) = (s.val : Int) ∧ sgn true (s.val : Int) = (s.val + 32 : Nat) := by decide
theorem and31_all : ∀ s : Fin 64, and31 (s.val : Int) = ((s.val % 32 : Nat) : Int) := by decide

theorem sgn_and {neg : Bool} {scale : Int} (h : 0 ≤ scale ∧ scale ≤ 18) : and31 (sgn neg scale) = scale ∧ 0 ≤ sgn neg scale ∧ sgn neg scale < 64 ∧ (decide (32 ≤ sgn neg scale)) = neg := by
  obtain ⟨S, rfl⟩ : ∃ S : Nat, scale = S := ⟨scale.toNat, by omega⟩
  obtain ⟨a, b⟩ := sgn_all ⟨S, by omega⟩
  simp only at a b
  cases neg with
  | false =>
    rw [a]
    have := and31_all ⟨S, by omega⟩
    simp only at this
    rw [this]
    refine ⟨by omega, by omega, by omega, ?_⟩
    rw [decide_eq_false_iff_not]; omega
  | true =>
    rw [b]
    have := and31_all ⟨S + 32, by omega⟩
    simp only at this
    rw [this]
    refine ⟨by omega, by omega, by omega, ?_⟩
    rw [decide_eq_true_eq]; omega

theorem and_sgn {s : Int} (h : 0 ≤ s ∧ s < 64) : sgn (decide (32 ≤ s)) (and31 s) = s := by
  obtain ⟨S, rfl⟩ : ∃ S : Nat, s = S := ⟨s.toNat, by omega⟩
  have := and31_all ⟨S, by omega⟩
  simp only at this
  rw [this]
  obtain ⟨a, b⟩ := sgn_all ⟨S % 32, by omega⟩
  simp only at a b
  by_cases h32 : 32 ≤ (S : Int)
  · rw [decide_eq_true h32, b]; omega
  · rw [decide_eq_false h32, a]; omega

def numP (v : Val) : List Int := sgn v.neg v.scale :: u8 (digits v.n0 v.n1 v.n2 v.n3).length :: digits v.n0 v.n1 v.n2 v.n3

theorem digits_rng {v : Val} (h : rngV v) : isB (digits v.n0 v.n1 v.n2 v.n3) ∧ fst0 (digits v.n0 v.n1 v.n2 v.n3) ∧
    limbsF (digits v.n0 v.n1 v.n2 v.n3) (digits v.n0 v.n1 v.n2 v.n3).length = [v.n0, v.n1, v.n2, v.n3] := by
  obtain ⟨k, neg, n0, n1, n2, n3, sc, fl, tx, er⟩ := v
  obtain ⟨⟨a0, b0⟩, ⟨a1, b1⟩, ⟨a2, b2⟩, ⟨a3, b3⟩⟩ := h
  simp only at *
  obtain ⟨N0, rfl⟩ := Int.eq_ofNat_of_zero_le a0
  obtain ⟨N1, rfl⟩ := Int.eq_ofNat_of_zero_le a1
  obtain ⟨N2, rfl⟩ := Int.eq_ofNat_of_zero_le a2
  obtain ⟨N3, rfl⟩ := Int.eq_ofNat_of_zero_le a3
  obtain ⟨h1, h2, h3⟩ := digits_natB (n0 := N0) (n1 := N1) (n2 := N2) (n3 := N3) (by omega) (by omega) (by omega) (by omega)
  exact ⟨h2, h3, limbs_digits (by omega) (by omega) (by omega) (by omega)⟩

/-- A NUMBER, THERE AND BACK. -/
theorem numF_pack {v : Val} (h : rngV v) (hs : 0 ≤ v.scale ∧ v.scale ≤ 18) (r : List Int) : numF (numP v ++ r) = .ok ⟨v.neg, [v.n0, v.n1, v.n2, v.n3], v.scale⟩ r := by
  obtain ⟨h1, h2, h3⟩ := digits_rng h
  obtain ⟨s1, s2, s3, s4⟩ := sgn_and (neg := v.neg) hs
  have hl := digits_len (n0 := v.n0) (n1 := v.n1) (n2 := v.n2) (n3 := v.n3)
  have hu : u8 ((digits v.n0 v.n1 v.n2 v.n3).length : Int) = (digits v.n0 v.n1 v.n2 v.n3).length := u8_id ⟨by omega, by omega⟩
  unfold numP
  rw [hu]
  generalize digits v.n0 v.n1 v.n2 v.n3 = D at h1 h2 h3 hl
  generalize sgn v.neg v.scale = s at s1 s2 s3 s4
  simp only [List.cons_append, numF, s1, s4, Int.toNat_natCast]
  rw [if_neg (by simp; omega), if_neg (by omega), if_neg (by simp), if_neg, List.take_left' rfl, List.drop_left' rfl, h3]
  · have tk : List.take D.length (D ++ r) = D := List.take_left' rfl
    simp only [tk]
    cases D with
    | nil => simp
    | cons x D =>
      have : x ≠ 0 := h2
      simp [this]

theorem numF_back {L : List Int} (hb : isB L) {x : Num} {r : List Int} (h : numF L = .ok x r) :
    L = numP ⟨1, x.neg, x.n.getD 0 0, x.n.getD 1 0, x.n.getD 2 0, x.n.getD 3 0, x.scale, false, [], 0⟩ ++ r := by
  match L, h with
  | [], h => simp [numF] at h
  | [s], h => simp only [numF] at h; split at h <;> cases h
  | s :: m :: L, h =>
    obtain ⟨hs, hb1⟩ := isB_cons.1 hb
    obtain ⟨hm, hb2⟩ := isB_cons.1 hb1
    simp only [numF] at h
    split at h
    · cases h
    · rename_i c1
      split at h
      · cases h
      · rename_i c2
        split at h
        · cases h
        · rename_i c3
          split at h
          · cases h
          · rename_i c4
            cases h
            obtain ⟨M, rfl⟩ := Int.eq_ofNat_of_zero_le hm.1
            simp only [Int.toNat_natCast] at c3 c4 ⊢
            have c1 : and31 s ≤ 18 ∧ s < 64 := by
              cases hq : (decide (and31 s ≤ 18) && decide (s < 64)) with
              | false => exact absurd hq c1
              | true => simpa using hq
            have hT : isB (L.take M) := fun x hx => hb2 x (List.mem_of_mem_take hx)
            have hl : (L.take M).length = M := by rw [List.length_take]; omega
            have hf : fst0 (L.take M) := by
              cases hT2 : L.take M with
              | nil => trivial
              | cons y T =>
                show y ≠ 0
                rintro rfl
                apply c4
                rw [hT2] at hl
                have : M ≠ 0 := by simp at hl; omega
                simp [this, hT2]
            have hd := digits_limbs hT (by rw [hl]; omega) hf
            rw [hl] at hd
            unfold numP
            rw [hd, hl, u8_id ⟨by omega, by omega⟩, and_sgn ⟨by omega, by omega⟩]
            simp

theorem packV_kind {v : Val} : packV v = u8 v.kind :: (if v.kind = 1 then numP v else if v.kind = 2 then [if v.flag = true then 1 else 0] else if v.kind = 3 then u8 v.text.length :: txt v.text else if v.kind = 4 then [u8 v.err] else []) := rfl

theorem txt_back {t : List UInt8} : (txt t).map (fun c => UInt8.ofNat c.toNat) = t := by
  induction t with
  | nil => rfl
  | cons x t ih =>
    rw [txt, List.map_cons, List.map_cons, ← txt, ih]
    simp
theorem txt_of {l : List Int} (h : isB l) : txt (l.map fun c => UInt8.ofNat c.toNat) = l := by
  induction l with
  | nil => rfl
  | cons x l ih =>
    obtain ⟨h1, h2⟩ := isB_cons.1 h
    rw [List.map_cons, txt, List.map_cons, ← txt, ih h2]
    congr 1
    rw [UInt8.toNat_ofNat']
    omega

/-- A VALUE, THERE AND BACK. -/
theorem valF_pack {v : Val} (h : rngV v) (ho : okV v = true) (r : List Int) : valF (packV v ++ r) = .ok v r := by
  rw [packV_kind]
  by_cases k0 : v.kind = 0
  · simp only [k0, show u8 0 = 0 from by decide, if_false, show ¬ (0 : Int) = 1 by decide, show ¬ (0 : Int) = 2 by decide, show ¬ (0 : Int) = 3 by decide, show ¬ (0 : Int) = 4 by decide, List.cons_append, List.nil_append, valF, if_true]
    congr 1
    obtain ⟨k, neg, n0, n1, n2, n3, sc, fl, tx, er⟩ := v
    simp only at k0
    subst k0
    simp [okV] at ho
    simp [val0, ho]
  by_cases k1 : v.kind = 1
  · have ho' := ho
    unfold okV at ho'
    rw [k1] at ho'
    simp only [show ¬ (1 : Int) = 0 by decide, if_false, if_true, Bool.and_eq_true, Bool.not_eq_true', beq_iff_eq] at ho'
    obtain ⟨⟨⟨hd, hf⟩, ht⟩, he⟩ := ho'
    have hsc : 0 ≤ v.scale ∧ v.scale ≤ 18 := by
      simp only [decBad, Bool.or_eq_false_iff, decide_eq_false_iff_not] at hd
      omega
    simp only [k1, show u8 1 = 1 from by decide, if_true, List.cons_append, valF, show ¬ (1 : Int) = 0 by decide, if_false, numF_pack h hsc]
    congr 1
    obtain ⟨k, neg, n0, n1, n2, n3, sc, fl, tx, er⟩ := v
    simp only at *
    subst k1
    simp [val0, hf, ht, he]
  by_cases k2 : v.kind = 2
  · simp only [k2, show u8 2 = 2 from by decide, if_true, List.cons_append, List.nil_append, valF, show ¬ (2 : Int) = 0 by decide, show ¬ (2 : Int) = 1 by decide, if_false]
    have hle : (if v.flag = true then (1 : Int) else 0) ≤ 1 := by split <;> decide
    rw [if_pos hle]
    congr 1
    obtain ⟨k, neg, n0, n1, n2, n3, sc, fl, tx, er⟩ := v
    simp only at k2
    subst k2
    simp [okV] at ho
    cases fl <;> simp [val0, ho]
  by_cases k3 : v.kind = 3
  · have ht : v.text.length ≤ 64 := by
      unfold okV at ho
      rw [k3] at ho
      simp at ho
      omega
    have hu : u8 (v.text.length : Int) = v.text.length := u8_id ⟨by omega, by omega⟩
    have hl : (txt v.text).length = v.text.length := by simp [txt]
    simp only [k3, show u8 3 = 3 from by decide, if_true, List.cons_append, List.nil_append, valF, show ¬ (3 : Int) = 0 by decide, show ¬ (3 : Int) = 1 by decide, show ¬ (3 : Int) = 2 by decide, if_false, hu, Int.toNat_natCast]
    rw [if_neg (by simp [hl]), List.take_left' hl, List.drop_left' hl, txt_back]
    congr 1
    obtain ⟨k, neg, n0, n1, n2, n3, sc, fl, tx, er⟩ := v
    simp only at k3
    subst k3
    simp [okV] at ho
    simp [val0, ho]
  by_cases k4 : v.kind = 4
  · have he : 1 ≤ v.err ∧ v.err ≤ 5 := by
      unfold okV at ho
      rw [k4] at ho
      simp at ho
      omega
    have hu : u8 v.err = v.err := u8_id ⟨by omega, by omega⟩
    simp only [k4, show u8 4 = 4 from by decide, if_true, List.cons_append, List.nil_append, valF, show ¬ (4 : Int) = 0 by decide, show ¬ (4 : Int) = 1 by decide, show ¬ (4 : Int) = 2 by decide, show ¬ (4 : Int) = 3 by decide, if_false, hu]
    congr 1
    obtain ⟨k, neg, n0, n1, n2, n3, sc, fl, tx, er⟩ := v
    simp only at k4
    subst k4
    simp [okV] at ho
    simp [val0, ho]
  · simp [okV, k0, k1, k2, k3, k4] at ho

theorem valF_back {L : List Int} (hb : isB L) {v : Val} {r : List Int} (h : valF L = .ok v r) : L = packV v ++ r := by
  match L, h with
  | [], h => cases h
  | k :: L, h =>
    obtain ⟨hk, hb1⟩ := isB_cons.1 hb
    simp only [valF] at h
    split at h
    · rename_i e; subst e; cases h; rfl
    · split at h
      · rename_i e; subst e
        split at h
        · rename_i x r' hn
          cases h
          have := numF_back hb1 hn
          rw [packV_kind, this]
          rfl
        · cases h
      · split at h
        · rename_i e; subst e
          split at h
          · cases h
          · rename_i n r'
            obtain ⟨hn, _⟩ := isB_cons.1 hb1
            split at h
            · cases h
              obtain rfl | rfl : n = 0 ∨ n = 1 := by omega
              · rfl
              · rfl
            · cases h
        · split at h
          · rename_i e; subst e
            split at h
            · cases h
            · rename_i n r'
              obtain ⟨hn, hb2⟩ := isB_cons.1 hb1
              split at h
              · cases h
              · rename_i hlt
                cases h
                have hl : (r'.take n.toNat).length = n.toNat := by rw [List.length_take]; omega
                rw [packV_kind]
                simp only [val0, show ¬ (3 : Int) = 1 by decide, show ¬ (3 : Int) = 2 by decide, if_false, if_true, List.length_map, hl]
                rw [txt_of (fun x hx => hb2 x (List.mem_of_mem_take hx)), show u8 3 = 3 from by decide]
                have : u8 (n.toNat : Int) = n := by rw [u8_id ⟨by omega, by omega⟩]; omega
                rw [this]
                simp
          · split at h
            · rename_i e; subst e
              split at h
              · cases h
              · rename_i n r'
                obtain ⟨hn, hb2⟩ := isB_cons.1 hb1
                cases h
                rw [packV_kind]
                simp only [val0, show ¬ (4 : Int) = 1 by decide, show ¬ (4 : Int) = 2 by decide, show ¬ (4 : Int) = 3 by decide, if_false, if_true]
                rw [u8_id hn]
                rfl
            · cases h

end Go.Vx

/- Plain law: a row's bytes, there and back. -/
namespace Go.Vx
set_option linter.unusedVariables false
set_option linter.unusedSimpArgs false
open Go Go.Proofs
set_option linter.unusedSimpArgs false
set_option linter.unusedVariables false
set_option maxRecDepth 10000
set_option maxHeartbeats 1000000

theorem valsN_pack : ∀ {vs : List Val} {acc : List Val} {r : List Int}, vs.all okV = true → (∀ x, x ∈ vs → rngV x) → valsN vs.length (vs.flatMap packV ++ r) acc = .ok (acc ++ vs) r
  | [], acc, r, _, _ => by simp [valsN]
  | v :: vs, acc, r, h, hr => by
    simp only [List.all_cons, Bool.and_eq_true] at h
    rw [List.length_cons, valsN, List.flatMap_cons, List.append_assoc, valF_pack (hr v (.head _)) h.1]
    simp only
    rw [valsN_pack h.2 (fun x hx => hr x (.tail _ hx))]
    simp
theorem valuesF_pack {vs : List Val} {r : List Int} (h : badL vs = false) (hr : ∀ x, x ∈ vs → rngV x) : valuesF (seg vs ++ r) = .ok vs r := by
  obtain ⟨_, h1, h2⟩ := badL_len h
  rw [seg, List.cons_append, valuesF, u8_id ⟨by omega, by omega⟩, Int.toNat_natCast, valsN_pack h2 hr]
  simp

theorem valsN_back : ∀ {n : Nat} {L : List Int} {acc w : List Val} {r : List Int}, isB L → valsN n L acc = .ok w r → ∃ vs, w = acc ++ vs ∧ vs.length = n ∧ L = vs.flatMap packV ++ r
  | 0, L, acc, w, r, hb, h => by cases h; exact ⟨[], by simp, rfl, rfl⟩
  | n + 1, L, acc, w, r, hb, h => by
    simp only [valsN] at h
    split at h
    · rename_i v r' hv
      have hL := valF_back hb hv
      have hb' : isB r' := by rw [hL] at hb; exact (isB_app.1 hb).2
      obtain ⟨vs, e1, e2, e3⟩ := valsN_back hb' h
      exact ⟨v :: vs, by simp [e1], by simp [e2], by rw [hL, e3]; simp⟩
    · cases h
theorem valuesF_back {L : List Int} {vs : List Val} {r : List Int} (hb : isB L) (h : valuesF L = .ok vs r) : L = seg vs ++ r := by
  match L, h with
  | [], h => cases h
  | n :: L, h =>
    obtain ⟨hn, hb1⟩ := isB_cons.1 hb
    obtain ⟨ws, e1, e2, e3⟩ := valsN_back hb1 h
    rw [List.nil_append] at e1
    subst e1
    rw [seg, e2, e3, u8_id ⟨by omega, by omega⟩]
    rw [Int.toNat_of_nonneg hn.1]
    rfl

mutual
def rngF : Fil → Prop
  | .mk v l k => (∀ x, x ∈ v → rngV x) ∧ (∀ x, x ∈ l → rngV x) ∧ rngK k
def rngK : List (List Fil) → Prop
  | [] => True
  | r :: k => rngR r ∧ rngK k
def rngR : List Fil → Prop
  | [] => True
  | f :: r => rngF f ∧ rngR r
end

/-- The two bytes of how many there are. -/
theorem two_id {n : Nat} (h : n < 65536) : u8 ((n : Int).fdiv (2 ^ 8)) = ((n / 256 : Nat) : Int) ∧ u8 (n : Int) = ((n % 256 : Nat) : Int) := by
  have e : (2 : Int) ^ 8 = ((256 : Nat) : Int) := by decide
  refine ⟨?_, ?_⟩
  · rw [e, ← Int.ofNat_fdiv, u8_id ⟨by omega, by omega⟩]
  · rw [u8, wrap_u8]; omega

theorem kidN_pack {d a : Nat} (ih : ∀ f, mayF f a = true → rngF f → ∀ r, (packF f).length < d → rowF d (packF f ++ r) = .ok f r) :
    ∀ {r : List Fil} {acc : List Fil} {rest : List Int}, mayR r a = true → rngR r → (packR r).length < d → kidN (rowF d) r.length (packR r ++ rest) acc = .ok (acc ++ r) rest
  | [], acc, rest, _, _, _ => by simp [kidN, packR]
  | f :: r, acc, rest, h, hr, hl => by
    simp only [mayR, Bool.and_eq_true] at h
    rw [packR, List.length_append] at hl
    rw [List.length_cons, kidN, packR, List.append_assoc, ih f h.1 hr.1 _ (by omega)]
    simp only
    rw [kidN_pack ih h.2 hr.2 (by omega)]
    simp
theorem kidsN_pack {d a : Nat} (ih : ∀ f, mayF f a = true → rngF f → ∀ r, (packF f).length < d → rowF d (packF f ++ r) = .ok f r) :
    ∀ {k : List (List Fil)} {acc : List (List Fil)} {rest : List Int}, mayK k a = true → rngK k → (packK k).length < d → kidsN (rowF d) k.length (packK k ++ rest) acc = .ok (acc ++ k) rest
  | [], acc, rest, _, _, _ => by simp [kidsN, packK]
  | r :: k, acc, rest, h, hr, hl => by
    simp only [mayK, Bool.and_eq_true, decide_eq_true_eq] at h
    simp only [packK, List.length_append, List.length_cons] at hl
    obtain ⟨e1, e2⟩ := two_id (n := r.length) (by omega)
    rw [List.length_cons, packK, e1, e2]
    simp only [List.cons_append, List.append_assoc]
    rw [kidsN]
    simp only [Int.toNat_natCast]
    rw [show r.length / 256 * 256 + r.length % 256 = r.length by omega, kidN_pack ih h.1.2 hr.1 (by omega)]
    simp only [List.nil_append]
    rw [kidsN_pack ih h.2 hr.2 (by omega)]
    simp

theorem packF_seg2 {v l : List Val} {k : List (List Fil)} : packF (.mk v l k) = seg v ++ (seg l ++ (u8 k.length :: packK k)) := by
  rw [packF_seg]; simp

/-- A ROW, THERE AND BACK. -/
theorem rowF_pack : ∀ (d a : Nat) (f : Fil), mayF f a = true → rngF f → ∀ r, (packF f).length < d → rowF d (packF f ++ r) = .ok f r
  | 0, a, f, _, _, r, hl => by omega
  | d + 1, a, .mk v l k, h, hr, r, hl => by
    simp only [mayF, Bool.and_eq_true, decide_eq_true_eq, Bool.not_eq_true'] at h
    obtain ⟨⟨⟨⟨ha, hv⟩, hll⟩, hk⟩, hK⟩ := h
    obtain ⟨r1, r2, r3⟩ := hr
    rw [packF_seg2] at hl ⊢
    simp only [List.length_append, List.length_cons] at hl
    simp only [List.append_assoc, List.cons_append]
    rw [rowF, valuesF_pack hv r1]
    simp only
    rw [valuesF_pack hll r2]
    simp only
    rw [u8_id ⟨by omega, by omega⟩, Int.toNat_natCast, kidsN_pack (fun f => rowF_pack d (a + 1) f) hK r3 (by omega)]
    simp

theorem kidN_back {f : List Int → PR Fil} (hf : ∀ {L x r}, isB L → f L = .ok x r → L = packF x ++ r) : ∀ {n : Nat} {L : List Int} {acc w : List Fil} {r : List Int}, isB L → kidN f n L acc = .ok w r →
    ∃ vs, w = acc ++ vs ∧ vs.length = n ∧ L = packR vs ++ r
  | 0, L, acc, w, r, hb, h => by cases h; exact ⟨[], by simp, rfl, rfl⟩
  | n + 1, L, acc, w, r, hb, h => by
    simp only [kidN] at h
    split at h
    · rename_i v r' hv
      have hL := hf hb hv
      have hb' : isB r' := by rw [hL] at hb; exact (isB_app.1 hb).2
      obtain ⟨vs, e1, e2, e3⟩ := kidN_back hf hb' h
      exact ⟨v :: vs, by simp [e1], by simp [e2], by rw [hL, e3]; simp [packR]⟩
    · cases h
theorem kidsN_back {f : List Int → PR Fil} (hf : ∀ {L x r}, isB L → f L = .ok x r → L = packF x ++ r) : ∀ {n : Nat} {L : List Int} {acc w : List (List Fil)} {r : List Int}, isB L → kidsN f n L acc = .ok w r →
    ∃ vs, w = acc ++ vs ∧ vs.length = n ∧ L = packK vs ++ r
  | 0, L, acc, w, r, hb, h => by cases h; exact ⟨[], by simp, rfl, rfl⟩
  | n + 1, [], acc, w, r, hb, h => by cases h
  | n + 1, [_], acc, w, r, hb, h => by cases h
  | n + 1, a :: b :: L, acc, w, r, hb, h => by
    obtain ⟨ha, hb1⟩ := isB_cons.1 hb
    obtain ⟨hbb, hb2⟩ := isB_cons.1 hb1
    simp only [kidsN] at h
    split at h
    · rename_i v r' hv
      obtain ⟨us, q1, q2, q3⟩ := kidN_back hf hb2 hv
      rw [List.nil_append] at q1
      subst q1
      have hb' : isB r' := by rw [q3] at hb2; exact (isB_app.1 hb2).2
      obtain ⟨vs, e1, e2, e3⟩ := kidsN_back hf hb' h
      refine ⟨v :: vs, by simp [e1], by simp [e2], ?_⟩
      obtain ⟨A, rfl⟩ := Int.eq_ofNat_of_zero_le ha.1
      obtain ⟨C, rfl⟩ := Int.eq_ofNat_of_zero_le hbb.1
      simp only [Int.toNat_natCast] at q2
      obtain ⟨g1, g2⟩ := two_id (n := v.length) (by omega)
      rw [packK, g1, g2, q3, e3]
      have h1 : v.length / 256 = A := by omega
      have h2 : v.length % 256 = C := by omega
      rw [h1, h2]
      simp
    · cases h

theorem rowF_back : ∀ {d : Nat} {L : List Int} {x : Fil} {r : List Int}, isB L → rowF d L = .ok x r → L = packF x ++ r
  | 0, L, x, r, _, h => by cases h
  | d + 1, L, x, r, hb, h => by
    simp only [rowF] at h
    split at h
    · cases h
    · rename_i v r1 h1
      have e1 := valuesF_back hb h1
      have hb1 : isB r1 := by rw [e1] at hb; exact (isB_app.1 hb).2
      split at h
      · cases h
      · rename_i l r2 h2
        have e2 := valuesF_back hb1 h2
        have hb2 : isB r2 := by rw [e2] at hb1; exact (isB_app.1 hb1).2
        split at h
        · cases h
        · rename_i n r3
          obtain ⟨hn, hb3⟩ := isB_cons.1 hb2
          split at h
          · cases h
          · rename_i k r4 h3
            cases h
            obtain ⟨ks, q1, q2, q3⟩ := kidsN_back (fun hb h => rowF_back hb h) hb3 h3
            rw [List.nil_append] at q1
            subst q1
            rw [packF_seg2, e1, e2, q3, q2]
            have : u8 (n.toNat : Int) = n := by rw [u8_id ⟨by omega, by omega⟩]; omega
            rw [this]
            simp

end Go.Vx

/- The deferred call of 'whole'. -/
namespace Go.Vx
set_option linter.unusedVariables false
set_option linter.unusedSimpArgs false
open Go Go.Proofs
set_option linter.unusedSimpArgs false
set_option linter.unusedVariables false
set_option maxRecDepth 10000
set_option maxHeartbeats 4000000

def seqL : Code → Code
  | .seq a _ => a
  | c => c
def seqR : Code → Code
  | .seq _ b => b
  | c => c
def opsOf : Code → Array Oper
  | .region _ ops _ => ops
  | _ => #[]

noncomputable def w1 : Code := Tryd.f35.body.getD .skip
noncomputable def w1A : Code := seqL (seqR w1)
noncomputable def w1B : Code := seqL (seqR (seqR w1))
noncomputable def w1C : Code := seqL (seqR (seqR (seqR w1)))
noncomputable def w1D : Array Oper := opsOf (seqR (seqR (seqR (seqR w1))))
noncomputable def w1O : Array Oper := opsOf (seqL w1)

theorem w1_eq : Tryd.f35.body = some (.seq (.region 0 w1O false) (.seq w1A (.seq w1B (.seq w1C (.region 5 w1D true))))) := by kernel_rfl

def c35A : AC :=
  .seq (.reg [⟨(some 6), none, .op (.mv (.t 2) false)⟩,
    ⟨(some 7), none, .op (.isnil false 2 (.t 6))⟩]) <|
  .cond (.t 7) (.ret) (.skip)
def c35B : AC :=
  .reg [⟨(some 9), none, .op (.mv (.t 2) false)⟩,
    ⟨(some 10), none, .op (.tas 77 true (.t 9))⟩,
    ⟨(some 8), none, .op (.mv (.t 10) false)⟩,
    ⟨(some 11), none, .op (.ext (.t 8) 0)⟩,
    ⟨(some 12), none, .op (.ext (.t 8) 1)⟩,
    ⟨(some 3), none, .op (.alloc [.d (.int .i64 0)] [])⟩,
    ⟨none, none, .op (.store 1 (.t 3) (.t 11))⟩,
    ⟨(some 4), none, .op (.mv (.t 12) true)⟩]
def c35C : AC :=
  .seq (.reg [⟨(some 13), none, .op (.mv (.t 4) false)⟩,
    ⟨(some 14), none, .op (.un .not (.t 13))⟩]) <|
  .cond (.t 14) (.reg [⟨(some 15), none, .op (.mv (.t 2) false)⟩,
      ⟨none, none, .op (.panic (.t 15))⟩]) (.skip)
theorem k35A : comp Tryd.prog [] 19 w1A = some c35A := by kernel_rfl
theorem k35B : comp Tryd.prog [] 19 w1B = some c35B := by kernel_rfl
theorem k35C : comp Tryd.prog [] 19 w1C = some c35C := by kernel_rfl

def fil0 : List A := [.d (.sl 10 []), .d (.sl 10 []), .d (.sl 1 [])]

/-- The states of the last region, by what has been carried out. -/
def stB (e : Int) (b0 b1 b2 b3 b4 : Bool) : St := ⟨19, 5000,
  [(18, bif b2 then .d (.int .i64 e) else .any), (17, bif b1 then .ptr 5003 0 else .any), (16, bif b0 then .agg fil0 else .any),
    (3, .ptr 5003 0), (1, .ptr 1003 0), (0, .ptr 1002 0)],
  [(5003, [.d (.int .i64 e)]), (1003, [bif b4 then .d (.int .i64 e) else .any]), (1002, bif b3 then fil0 else [.any, .any, .any])], []⟩
def stD (e : Int) (L : Array Bool) : St := stB e (L.getD 0 false) (L.getD 1 false) (L.getD 2 false) (L.getD 3 false) (L.getD 4 false)

theorem w1_follows : Tryd.prog.follows .mixedOrders = true := by kernel_rfl

def acyc (ops : Array Oper) : Bool := ops.toList.zipIdx.all fun (o, i) => o.after.all fun e => !(Region.binds .any e) || Nat.blt e.on i
theorem acyc_of {ops : Array Oper} (h : acyc ops = true) : ∀ i o, ops[i]? = some o → ∀ e, e ∈ o.after → Region.binds .any e = true → e.on < i := by
  intro i o ho e he hb
  simp only [acyc, List.all_eq_true] at h
  have := h (o, i) (by rw [List.mem_zipIdx_iff_getElem?]; simpa using ho)
  simp only [Array.all_eq_true_iff_forall_mem] at this
  have := this e he
  rw [hb] at this
  simpa using this

theorem w1D_size : w1D.size = 5 := by kernel_rfl


theorem mem_getD {α : Type} {xs : Array α} {i : Nat} {d : α} (h : Nat.blt i xs.size = true) : xs.getD i d ∈ xs := by
  have h : i < xs.size := by simpa using h
  rw [Array.getD_eq_getD_getElem?, Array.getElem?_eq_getElem h]
  exact Array.getElem_mem h

theorem all5 {L : Array Bool} (h : L.size = 5) : ∃ a b c d e, L = #[a, b, c, d, e] := by
  obtain ⟨l⟩ := L
  match l, h with
  | [a, b, c, d, e], _ => exact ⟨a, b, c, d, e, rfl⟩

theorem w1D_tr {e : Int} {Q : AX → St → Prop} {s : St} (h0 : Weak s (stD e #[false, false, false, false, false]))
    (hq : Q .normal (stD e #[true, true, true, true, true])) : Tr Tryd.prog (.region 5 w1D true) s Q := by
  refine draw_fam w1_follows (stD e) (fun _ => ⟨rfl, rfl⟩) (acyc_of (by kernel_rfl)) (by rw [w1D_size]; exact h0) ?_ ?_
  · intro L i o hs hun ho hdep
    rw [w1D_size] at hs
    obtain ⟨b0, b1, b2, b3, b4, rfl⟩ := all5 hs
    have hi : i < 5 := by
      rcases Nat.lt_or_ge i 5 with h | h
      · exact h
      · rw [Array.getElem?_eq_none (by rw [w1D_size]; exact h)] at ho; cases ho
    have ho' : o = w1D.getD i default := by
      rw [Array.getD_eq_getD_getElem?, ho]; rfl
    subst ho'
    obtain rfl | rfl | rfl | rfl | rfl : i = 0 ∨ i = 1 ∨ i = 2 ∨ i = 3 ∨ i = 4 := by omega
    · have hb : b0 = false := hun
      subst hb
      refine ⟨by kernel_rfl, .op (.build fil0 []), by kernel_rfl, by kernel_rfl, ?_⟩
      have hd : (w1D.getD 0 default).dst = some 16 := by kernel_rfl
      rw [hd]
      show vcOp (.build fil0 []) (some 16) (stB e false b1 b2 b3 b4) (fun s' => Weak s' (stB e true b1 b2 b3 b4)) (fun _ => False)
      cases b1 <;> cases b2 <;> cases b3 <;> cases b4
      all_goals
        simp (maxSteps := 10000000) -dsimp only [go_sem, simprocAttr, stB, fil0]
        try (refine weak_mk ?_ ?_ ?_ ?_ ?_ <;> simp (maxSteps := 10000000) -dsimp only [go_sem, simprocAttr, fil0])
    · have hb : b1 = false := hun
      subst hb
      refine ⟨by kernel_rfl, .op (.fa 0 (.t 3)), by kernel_rfl, by kernel_rfl, ?_⟩
      have hd : (w1D.getD 1 default).dst = some 17 := by kernel_rfl
      rw [hd]
      show vcOp (.fa 0 (.t 3)) (some 17) (stB e b0 false b2 b3 b4) (fun s' => Weak s' (stB e b0 true b2 b3 b4)) (fun _ => False)
      cases b0 <;> cases b2 <;> cases b3 <;> cases b4
      all_goals
        simp (maxSteps := 10000000) -dsimp only [go_sem, simprocAttr, stB, fil0]
        try (refine weak_mk ?_ ?_ ?_ ?_ ?_ <;> simp (maxSteps := 10000000) -dsimp only [go_sem, simprocAttr, fil0])
    · have hb : b2 = false := hun
      subst hb
      have hb1 : b1 = true := hdep ((w1D.getD 2 default).after.getD 0 default) (mem_getD (by kernel_rfl)) (by kernel_rfl)
      subst hb1
      refine ⟨by kernel_rfl, .op (.load false 1 (.t 17) false), by kernel_rfl, by kernel_rfl, ?_⟩
      have hd : (w1D.getD 2 default).dst = some 18 := by kernel_rfl
      rw [hd]
      show vcOp (.load false 1 (.t 17) false) (some 18) (stB e b0 true false b3 b4) (fun s' => Weak s' (stB e b0 true true b3 b4)) (fun _ => False)
      cases b0 <;> cases b3 <;> cases b4
      all_goals
        simp (maxSteps := 10000000) -dsimp only [go_sem, simprocAttr, stB, fil0]
        try (refine weak_mk ?_ ?_ ?_ ?_ ?_ <;> simp (maxSteps := 10000000) -dsimp only [go_sem, simprocAttr, fil0])
    · have hb : b3 = false := hun
      subst hb
      have hb0 : b0 = true := hdep ((w1D.getD 3 default).after.getD 0 default) (mem_getD (by kernel_rfl)) (by kernel_rfl)
      subst hb0
      refine ⟨by kernel_rfl, .op (.store 3 (.t 0) (.t 16)), by kernel_rfl, by kernel_rfl, ?_⟩
      have hd : (w1D.getD 3 default).dst = none := by kernel_rfl
      rw [hd]
      show vcOp (.store 3 (.t 0) (.t 16)) (none) (stB e true b1 b2 false b4) (fun s' => Weak s' (stB e true b1 b2 true b4)) (fun _ => False)
      cases b1 <;> cases b2 <;> cases b4
      all_goals
        simp (maxSteps := 10000000) -dsimp only [go_sem, simprocAttr, stB, fil0]
        try (refine weak_mk ?_ ?_ ?_ ?_ ?_ <;> simp (maxSteps := 10000000) -dsimp only [go_sem, simprocAttr, fil0])
    · have hb : b4 = false := hun
      subst hb
      have hb2 : b2 = true := hdep ((w1D.getD 4 default).after.getD 0 default) (mem_getD (by kernel_rfl)) (by kernel_rfl)
      subst hb2
      have hb3 : b3 = true := hdep ((w1D.getD 4 default).after.getD 1 default) (mem_getD (by kernel_rfl)) (by kernel_rfl)
      subst hb3
      refine ⟨by kernel_rfl, .op (.store 1 (.t 1) (.t 18)), by kernel_rfl, by kernel_rfl, ?_⟩
      have hd : (w1D.getD 4 default).dst = none := by kernel_rfl
      rw [hd]
      show vcOp (.store 1 (.t 1) (.t 18)) (none) (stB e b0 b1 true true false) (fun s' => Weak s' (stB e b0 b1 true true true)) (fun _ => False)
      cases b0 <;> cases b1
      all_goals
        simp (maxSteps := 10000000) -dsimp only [go_sem, simprocAttr, stB, fil0]
        try (refine weak_mk ?_ ?_ ?_ ?_ ?_ <;> simp (maxSteps := 10000000) -dsimp only [go_sem, simprocAttr, fil0])
  · intro L hs hall
    rw [w1D_size] at hs hall
    obtain ⟨b0, b1, b2, b3, b4, rfl⟩ := all5 hs
    obtain rfl : b0 = true := hall 0 (by decide)
    obtain rfl : b1 = true := hall 1 (by decide)
    obtain rfl : b2 = true := hall 2 (by decide)
    obtain rfl : b3 = true := hall 3 (by decide)
    obtain rfl : b4 = true := hall 4 (by decide)
    exact hq

end Go.Vx

/- The deferred call of 'whole': what it does. -/
namespace Go.Vx
set_option linter.unusedVariables false
set_option linter.unusedSimpArgs false
open Go Go.Proofs
set_option linter.unusedSimpArgs false
set_option linter.unusedVariables false
set_option maxRecDepth 10000
set_option maxHeartbeats 4000000

/-- Behind the deferred call. -/
def w1Post (e : Int) : AX → St → Prop
  | .normal, s => s = stB e true true true true true
  | _, _ => False

theorem w1_rest {e : Int} : Tr Tryd.prog (.seq w1A (.seq w1B (.seq w1C (.region 5 w1D true)))) ⟨19, 5000, [(2, .d (wrongE e)), (1, .ptr 1003 0), (0, .ptr 1002 0)], [(1003, [.any]), (1002, [.any, .any, .any])], []⟩ (w1Post e) := by
  refine Tr.seq (vc_sound w1A c35A _ _ k35A ?_)
  unfold c35A wrongE
  simp (maxSteps := 10000000) -dsimp only [go_sem, simprocAttr]
  intro _ _
  refine Tr.seq (vc_sound w1B c35B _ _ k35B ?_)
  unfold c35B
  simp (maxSteps := 10000000) -dsimp only [go_sem, simprocAttr]
  intro _ _
  refine Tr.seq (vc_sound w1C c35C _ _ k35C ?_)
  unfold c35C
  simp (maxSteps := 10000000) -dsimp only [go_sem, simprocAttr]
  intro _ _
  refine w1D_tr (e := e) ?_ rfl
  show Weak _ (stB e false false false false false)
  unfold stB
  refine weak_mk ?_ ?_ ?_ ?_ ?_ <;> simp (maxSteps := 10000000) -dsimp only [go_sem, simprocAttr, fil0]

def o35a : Oper := { dst := some 5, op := .call { callee := .builtin .recover, args := #[], argTypes := #[] }, type := 20, pos := "efile.go:216", after := #[], guard := none }
def o35b : Oper := { dst := some 2, op := .assign (.tmp 5), type := 20, pos := "efile.go:216", after := #[⟨0, .data⟩, ⟨0, .chain⟩, ⟨0, .phase⟩], guard := none }
theorem w1O_eq : w1O = #[o35a, o35b] := by kernel_rfl

theorem run_recover {P : Program} {ρ : Operand → Value} {w : World} : (execOp ρ o35a).run P w = .ok .recover w := rfl
theorem run_assign {P : Program} {ρ : Operand → Value} {w : World} : (execOp ρ o35b).run P w = .ok (.value (ρ (.tmp 5))) w := rfl

theorem w1_head {P : Program} {Q : Exit → Act → List Frame → World → Prop} {a : Act} {c₀ : Frame} {cs : List Frame} {w : World} {v : Value} (hm : c₀.mode = .panicking [{ v, recovered := false }])
    (h : Q .normal ((a.put (some 5) v).put (some 2) ((a.put (some 5) v).eval (.tmp 5))) ({ c₀ with mode := .panicking [{ v, recovered := true }] } :: cs) w) : wpOpsS P #[o35a, o35b] Q (List.range 2) a (c₀ :: cs) w := by
  show wpOpsS P #[o35a, o35b] Q [0, 1] a (c₀ :: cs) w
  have g0 : (#[o35a, o35b] : Array Oper)[0]? = some o35a := rfl
  have g1 : (#[o35a, o35b] : Array Oper)[1]? = some o35b := rfl
  have hw : ∀ y, Region.wanted o35a y = true := fun y => by simp [Region.wanted, o35a]
  have hw2 : ∀ y, Region.wanted o35b y = true := fun y => by simp [Region.wanted, o35b]
  have hrec : recoverD (c₀ :: cs) = some (v, { c₀ with mode := .panicking [{ v, recovered := true }] } :: cs) := by
    simp only [recoverD, hm]
  rw [wpOpsS, g0]
  simp only [hw, if_true, run_recover, hrec]
  rw [wpOpsS, g1]
  simp only [hw2, if_true, run_assign]
  exact h

/-- THE DEFERRED CALL BEHIND A PANIC. -/
theorem cd_whole1 {X : Ctx} {σ : Store} {β : Names} {w : World} {e : Int} {v p2 p3 : Value} (h2 : RA σ β (.ptr 1002 0) p2) (h3 : RA σ β (.ptr 1003 0) p3) (hv : Reads σ (wrongE e) v)
    (hr : ∃ tm : Array Value, Rel ⟨X.b, []⟩ σ β ⟨tm.size, 5000, [], [(1003, [.any]), (1002, [.any, .any, .any])], []⟩ ⟨tm, []⟩ w) :
    CallsD Tryd.prog 35 #[p2, p3] (.panicking [{ v, recovered := false }]) w (fun en u' w' => (∃ r, en = .returned r) ∧ u' = .panicking [{ v, recovered := true }] ∧
      ∃ σ' β' a', Rel ⟨X.b, []⟩ σ' β' (stB e true true true true true) a' w' ∧ Step ⟨X.b, []⟩ 5000 σ β w σ' β' w') := by
  refine callsD_of_wpS Tryd.func35 w1_eq ?_
  intro c₀ cs hm
  refine wpS_seq (wpS_region ?_)
  rw [w1O_eq]
  refine w1_head hm ?_
  obtain ⟨tm, hr⟩ := hr
  have hsz : (#[p2, p3] ++ Array.replicate (Tryd.f35.ntmps - (#[p2, p3] : Array Value).size) undef).size = 19 := by simp [show Tryd.f35.ntmps = 19 from rfl]
  have hg : ∀ i, (#[p2, p3] ++ Array.replicate (Tryd.f35.ntmps - (#[p2, p3] : Array Value).size) undef).getD i undef = if i = 0 then p2 else if i = 1 then p3 else undef := by
    intro i
    rw [Array.getD_eq_getD_getElem?]
    match i with
    | 0 => simp
    | 1 => simp
    | i + 2 =>
      rw [Array.getElem?_append_right (by simp)]
      have n0 : ¬ (i + 2 = 0) := by omega
      have n1 : ¬ (i + 2 = 1) := by omega
      simp only [Array.getElem?_replicate, n0, n1, if_false]
      split <;> rfl
  generalize #[p2, p3] ++ Array.replicate (Tryd.f35.ntmps - (#[p2, p3] : Array Value).size) undef = tms at hsz hg
  have h1 := hr.frame 19 5000 [(1, .ptr 1003 0), (0, .ptr 1002 0)] tms hsz (fun i => by
    rw [hg, look_cons, look_cons]
    by_cases e1 : i = 1
    · subst e1; simpa using h3
    · by_cases e0 : i = 0
      · subst e0; simpa using h2
      · simp only [e1, e0, if_false]; exact .any _)
  have h4 := h1.put (d := 5) (x := .d (wrongE e)) (v := v) (by show 5 < 19; decide) (.d _ _ hv)
  have h5 := h4.put (d := 2) (x := .d (wrongE e)) (v := v) (by show 2 < 19; decide) (.d _ _ hv)
  have hev : (({ tmps := tms, defers := [] } : Act).put (some 5) v).eval (.tmp 5) = v := by
    show (tms.setIfInBounds 5 v).getD 5 undef = v
    rw [getD_set _ _ _ _ (by omega), if_pos rfl]
  rw [hev]
  have h6 : Rel ⟨X.b, []⟩ σ β ⟨19, 5000, [(2, .d (wrongE e)), (1, .ptr 1003 0), (0, .ptr 1002 0)], [(1003, [.any]), (1002, [.any, .any, .any])], []⟩ ((({ tmps := tms, defers := [] } : Act).put (some 5) v).put (some 2) v) w := by
    refine h5.sub rfl rfl (fun i => ?_) (fun p hp => by cases hp)
    simp only [St.set, look_cons]
    by_cases e2 : i = 2
    · simp [e2]
    · by_cases e5 : i = 5
      · subst e5; simp [look]
      · simp [e2, e5]
  refine wpS_of_wp (wp_mono (w1_rest (e := e) _ σ β _ w h6) ?_)
  rintro en a' w' ⟨ax, s', σ', β', q, q1, q2, ex, r, st⟩
  cases ax with
  | normal =>
    cases en <;> simp only [ExRel] at ex
    have q : s' = stB e true true true true true := q
    subst q
    have hres : (results Tryd.f35 a'.tmps).run Tryd.prog w' = .ok (.tuple #[]) w' := by
      have e0 : Tryd.f35.results = #[] := by kernel_rfl
      unfold results
      rw [e0]
      simp
    exact ⟨r.defs, _, rfl, _, hres, ⟨_, rfl⟩, rfl, σ', β', a', r, st⟩
  | exit i => exact q.elim
  | goto i => exact q.elim
  | ret => exact q.elim
  | panic x => exact q.elim

theorem w1_headn {P : Program} {Q : Exit → Act → List Frame → World → Prop} {a : Act} {c₀ : Frame} {cs : List Frame} {w : World} (hm : c₀.mode = .returning)
    (h : Q .normal ((a.put (some 5) .nilIface).put (some 2) ((a.put (some 5) .nilIface).eval (.tmp 5))) (c₀ :: cs) w) : wpOpsS P #[o35a, o35b] Q (List.range 2) a (c₀ :: cs) w := by
  show wpOpsS P #[o35a, o35b] Q [0, 1] a (c₀ :: cs) w
  have g0 : (#[o35a, o35b] : Array Oper)[0]? = some o35a := rfl
  have g1 : (#[o35a, o35b] : Array Oper)[1]? = some o35b := rfl
  have hw : ∀ y, Region.wanted o35a y = true := fun y => by simp [Region.wanted, o35a]
  have hw2 : ∀ y, Region.wanted o35b y = true := fun y => by simp [Region.wanted, o35b]
  have hrec : recoverD (c₀ :: cs) = none := by
    simp only [recoverD, hm]
  rw [wpOpsS, g0]
  simp only [hw, if_true, run_recover, hrec]
  rw [wpOpsS, g1]
  simp only [hw2, if_true, run_assign]
  exact h

/-- THE DEFERRED CALL BEHIND NO PANIC. -/
theorem cd_whole1n {X : Ctx} {σ : Store} {β : Names} {w : World} {p2 p3 : Value} {bx : List (Nat × List A)}
    (hr : ∃ tm : Array Value, Rel ⟨X.b, []⟩ σ β ⟨tm.size, 5000, [], bx, []⟩ ⟨tm, []⟩ w) :
    CallsD Tryd.prog 35 #[p2, p3] .returning w (fun en u' w' => (∃ r, en = .returned r) ∧ u' = .returning ∧
      ∃ σ' β' s' a', s'.bx = bx ∧ Rel ⟨X.b, []⟩ σ' β' s' a' w' ∧ Step ⟨X.b, []⟩ 5000 σ β w σ' β' w') := by
  refine callsD_of_wpS Tryd.func35 w1_eq ?_
  intro c₀ cs hm
  refine wpS_seq (wpS_region ?_)
  rw [w1O_eq]
  refine w1_headn hm ?_
  obtain ⟨tm, hr⟩ := hr
  have hsz : (#[p2, p3] ++ Array.replicate (Tryd.f35.ntmps - (#[p2, p3] : Array Value).size) undef).size = 19 := by simp [show Tryd.f35.ntmps = 19 from rfl]
  generalize #[p2, p3] ++ Array.replicate (Tryd.f35.ntmps - (#[p2, p3] : Array Value).size) undef = tms at hsz
  have h1 := hr.frame 19 5000 [] tms hsz (fun i => .any _)
  have h4 := h1.put (d := 5) (x := .d .nilif) (v := .nilIface) (by show 5 < 19; decide) (.d _ _ .nilif)
  have h5 := h4.put (d := 2) (x := .d .nilif) (v := .nilIface) (by show 2 < 19; decide) (.d _ _ .nilif)
  have hev : (({ tmps := tms, defers := [] } : Act).put (some 5) .nilIface).eval (.tmp 5) = .nilIface := by
    show (tms.setIfInBounds 5 .nilIface).getD 5 undef = .nilIface
    rw [getD_set _ _ _ _ (by omega), if_pos rfl]
  rw [hev]
  have h6 : Rel ⟨X.b, []⟩ σ β ⟨19, 5000, [(2, .d .nilif)], bx, []⟩ ((({ tmps := tms, defers := [] } : Act).put (some 5) .nilIface).put (some 2) .nilIface) w := by
    refine h5.sub rfl rfl (fun i => ?_) (fun p hp => by cases hp)
    simp only [St.set, look_cons]
    by_cases e2 : i = 2
    · simp [e2]
    · simp [e2, look]
  have hT : Tr Tryd.prog (.seq w1A (.seq w1B (.seq w1C (.region 5 w1D true)))) ⟨19, 5000, [(2, .d .nilif)], bx, []⟩ (fun ax s => match ax with | .ret => s.bx = bx | _ => False) := by
    refine Tr.seq (vc_sound w1A c35A _ _ k35A ?_)
    unfold c35A
    simp (maxSteps := 10000000) -dsimp only [go_sem, simprocAttr]
  refine wpS_of_wp (wp_mono (hT _ σ β _ w h6) ?_)
  rintro en a' w' ⟨ax, s', σ', β', q, q1, q2, ex, r, st⟩
  cases ax with
  | ret =>
    cases en <;> simp only [ExRel] at ex
    have hres : (results Tryd.f35 a'.tmps).run Tryd.prog w' = .ok (.tuple #[]) w' := by
      have e0 : Tryd.f35.results = #[] := by kernel_rfl
      unfold results
      rw [e0]
      simp
    exact ⟨r.defs, _, rfl, _, hres, ⟨_, rfl⟩, hm, σ', β', s', a', q, r, st⟩
  | exit i => exact q.elim
  | goto i => exact q.elim
  | normal => exact q.elim
  | panic x => exact q.elim

end Go.Vx

/- Reading all of a row's bytes. -/
namespace Go.Vx
set_option linter.unusedVariables false
set_option linter.unusedSimpArgs false
open Go Go.Proofs
set_option linter.unusedSimpArgs false
set_option linter.unusedVariables false
set_option maxRecDepth 10000
set_option maxHeartbeats 4000000

noncomputable def wh : Code := Tryd.f23.body.getD .skip
noncomputable def whA : Code := seqL wh
noncomputable def whB : Code := seqR (seqR wh)
def o23a : Oper := { dst := some 5, op := .makeFunc (.func 35) #[] #[.tmp 2, .tmp 3], type := 1, pos := "efile.go:215", after := #[], guard := none }
def o23b : Oper := { dst := none, op := .defer { callee := .value (.tmp 5), args := #[], argTypes := #[] }, type := 0, pos := "efile.go:215", after := #[⟨0, .data⟩], guard := none }
theorem wh_eq : Tryd.f23.body = some (.seq whA (.seq (.region 1 #[o23a, o23b] false) whB)) := by kernel_rfl

def c23A : AC :=
  .reg [⟨(some 2), none, .op (.alloc [.d (.sl 10 []), .d (.sl 10 []), .d (.sl 1 [])] [(0, 10), (1, 10), (2, 1)])⟩,
    ⟨(some 3), none, .op (.alloc [.d (.int .i64 0)] [])⟩]
def c23B : AC :=
  .seq (.reg [⟨(some 6), none, .op (.mv (.t 0) false)⟩,
    ⟨(some 7), none, .op (.build [.d (.sl 1 [])] [(0, 1, (.t 6))])⟩,
    ⟨(some 8), none, .op (.box 1 (.t 7))⟩,
    ⟨(some 4), none, .op (.mv (.t 8) true)⟩]) <|
  .seq (.reg [⟨(some 9), none, .op (.mv (.t 4) false)⟩,
    ⟨(some 10), none, .call 36 [(.t 9)] none⟩,
    ⟨none, none, .op (.store 3 (.t 2) (.t 10))⟩]) <|
  .seq (.reg [⟨(some 11), none, .op (.mv (.t 4) false)⟩,
    ⟨(some 12), none, .op (.nilck (.t 11))⟩,
    ⟨(some 13), none, .op (.fa 0 (.t 12))⟩,
    ⟨(some 14), none, .op (.load false 1 (.t 13) false)⟩,
    ⟨(some 15), none, .op (.len (.t 14))⟩,
    ⟨(some 16), none, .op (.bin .eql (.t 15) (.c (.d (.int .i64 0))))⟩,
    ⟨(some 17), none, .call 37 [(.t 16)] none⟩]) <|
  .seq (.reg [⟨(some 18), none, .op (.load true 3 (.t 2) true)⟩,
    ⟨none, none, .op (.store 3 (.t 2) (.t 18))⟩,
    ⟨none, none, .op (.store 1 (.t 3) (.c (.d (.int .i64 0))))⟩]) <|
  .ret
theorem k23A : comp Tryd.prog [] 19 whA = some c23A := by kernel_rfl
theorem k23B : comp Tryd.prog [] 19 whB = some c23B := by kernel_rfl
theorem r23 : cRes Tryd.prog Tryd.f23.results.toList = some [.c 2 true 3, .c 3 false 1] := by kernel_rfl

def wholeF (L : List Int) : PR Fil := match rowF (L.length + 1) L with
  | .ok f [] => .ok f []
  | .ok _ _ => .err 252
  | .err e => .err e
def wholeO (L : List Int) : Out := match wholeF L with
  | .ok f _ => .ret [.agg ((encF f).map .d), .d (.int .i64 0)] [] []
  | .err e => .ret [.agg fil0, .d (.int .i64 e)] [] []

/-- Ahead of the deferred call. -/
def whPost (R : Out → Prop) : AX → St → Prop
  | .ret, s => (∀ n cs, lookB n s.bx = some cs → n < 5000) ∧ vcFin [.c 2 true 3, .c 3 false 1] ⟨s.n, s.k, s.t, s.bx, []⟩ R
  | .panic x, s => ∃ e, x = wrongE e ∧ Weak s ⟨19, 2000, [(3, .ptr 1003 0), (2, .ptr 1002 0)], [(1003, [.any]), (1002, [.any, .any, .any])], []⟩ ∧ R (.ret [.agg fil0, .d (.int .i64 e)] [] [])
  | _, _ => False

theorem wh_rest {L : List Int} {R : Out → Prop} (hb : ∀ x, x ∈ L → 0 ≤ x ∧ x < 256) (h : R (wholeO L)) :
    Tr Tryd.prog whB ⟨19, 2000, [(3, .ptr 1003 0), (2, .ptr 1002 0), (0, .d (.sl 1 (byt L)))], [(1003, [.d (.int .i64 0)]), (1002, [.d (.sl 10 []), .d (.sl 10 []), .d (.sl 1 [])])], []⟩ (whPost R) := by
  refine vc_sound whB c23B _ _ k23B ?_
  unfold c23B
  simp (maxSteps := 10000000) -dsimp only [go_sem, simprocAttr]
  refine kCS_intro (cs_rrow (L.length + 1) L _ (by omega) hb ?_)
  cases hrw : rowF (L.length + 1) L with
  | err e =>
    intro L'
    simp (maxSteps := 10000000) -dsimp only [go_sem, simprocAttr]
    refine ⟨e, rfl, ?_, ?_⟩
    · refine weak_mk ?_ ?_ ?_ ?_ ?_ <;> simp (maxSteps := 10000000) -dsimp only [go_sem, simprocAttr]
    · simpa only [wholeO, wholeF, hrw] using h
  | ok f r =>
    obtain ⟨v, l, k⟩ := f
    simp (maxSteps := 10000000) -dsimp only [go_sem, simprocAttr, encF]
    refine kImp_intro (fun hl => ?_)
    simp (maxSteps := 10000000) -dsimp only [go_sem, simprocAttr]
    refine kCS_intro (cs_form (fun q => ?_) (fun q => ?_))
    · have hr : r = [] := by
        cases r with
        | nil => rfl
        | cons a b => simp at q; omega
      subst hr
      simp (maxSteps := 10000000) -dsimp only [go_sem, simprocAttr]
      refine ⟨?_, ?_⟩
      · intro n cs hn
        simp only [lookB_cons] at hn
        split at hn
        · omega
        · split at hn
          · omega
          · split at hn
            · omega
            · cases hn
      · simp (maxSteps := 10000000) -dsimp only [go_sem, simprocAttr]
        simpa only [wholeO, wholeF, hrw, encF, List.map_cons, List.map_nil] using h
    · have hr : ∃ a b, r = a :: b := by
        cases r with
        | nil => simp at q
        | cons a b => exact ⟨a, b, rfl⟩
      obtain ⟨a, b, rfl⟩ := hr
      simp (maxSteps := 10000000) -dsimp only [go_sem, simprocAttr]
      refine ⟨252, rfl, ?_, ?_⟩
      · refine weak_mk ?_ ?_ ?_ ?_ ?_ <;> simp (maxSteps := 10000000) -dsimp only [go_sem, simprocAttr]
      · simpa only [wholeO, wholeF, hrw] using h

theorem wh_head {x : D} : Tr Tryd.prog whA ⟨19, 1000, [(0, .d x)], [], []⟩ (fun ax s => match ax with | .normal => s.t = [(3, .ptr 1003 0), (2, .ptr 1002 0), (0, .d x)] ∧ s.bx = [(1003, [.d (.int .i64 0)]), (1002, [.d (.sl 10 []), .d (.sl 10 []), .d (.sl 1 [])])] | _ => False) := by
  refine vc_sound whA c23A _ _ k23A ?_
  unfold c23A
  simp (maxSteps := 10000000) -dsimp only [go_sem, simprocAttr]

theorem run_mk {a : Act} {w : World} : (execOp a.eval o23a).run Tryd.prog w = .ok (.value (.func (.func 35) #[] #[a.tmps.getD 2 undef, a.tmps.getD 3 undef])) w := by
  simp [execOp, o23a, Instr.makeFunc, Act.eval]

theorem run_df {a : Act} {w : World} {p2 p3 : Value} (h : a.tmps.getD 5 undef = .func (.func 35) #[] #[p2, p3]) :
    (execOp a.eval o23b).run Tryd.prog w = .ok (.defer ⟨.fn (.func 35) #[p2, p3], #[]⟩) w := by
  have : a.eval (.tmp 5) = .func (.func 35) #[] #[p2, p3] := h
  simp [execOp, o23b, resolve, this, Deferred.ofValue]

theorem run_inv {w : World} {p2 p3 : Value} : (invoke (.fn (.func 35) #[p2, p3]) #[]).run Tryd.prog w = .ok (.enter 35 #[p2, p3]) w := by
  have h : Tryd.prog.funcs[(35 : Nat)]? = some Tryd.f35 := Tryd.func35
  have hn : (Tryd.f35.name == "runtime.NumGoroutine") = false := by decide
  have hb : Tryd.f35.body.isNone = false := by kernel_rfl
  have e1 : (#[] ++ #[p2, p3] : Array Value) = #[p2, p3] := by simp
  simp only [invoke, callFunc, e1, Sem.run_bind, run_program, Result.andThen_ok, h, hn, hb, Sem.run_pure, Bool.false_eq_true, if_false]

/-- READING ALL OF A ROW'S BYTES. -/
theorem cs_whole {L : List Int} {R : Out → Prop} (hb : ∀ x, x ∈ L → 0 ≤ x ∧ x < 256) (h : R (wholeO L)) : CS Tryd.prog 23 [.d (.sl 1 (byt L))] [] [] R := by
  intro X σ β w vals hrel
  obtain ⟨Xb, Xd⟩ := X
  have hXd : Xd = [] := hrel.defs.symm
  subst hXd
  refine calls_of_wp_defers Tryd.func23 wh_eq ?_
  have h0 : Rel ⟨Xb, []⟩ σ β ⟨19, 1000, [(0, .d (.sl 1 (byt L)))], [], []⟩ ⟨vals ++ Array.replicate (19 - vals.size) undef, []⟩ w := hrel.entry (N := 19) (by simp)
  have hN : Tryd.f23.ntmps = 19 := rfl
  rw [hN]
  generalize vals ++ Array.replicate (19 - vals.size) undef = tm at h0
  -- the two cells of the results
  refine wp_seq (wp_mono (wh_head _ σ β _ w h0) ?_)
  rintro en a1 w1 ⟨ax, s1, σ1, β1, q, q1, q2, ex, r1, st1⟩
  cases ax with
  | exit i => exact q.elim
  | goto i => exact q.elim
  | ret => exact q.elim
  | panic x => exact q.elim
  | normal =>
  cases en <;> simp only [ExRel] at ex
  obtain ⟨s1n, s1k, s1t, s1b, s1o⟩ := s1
  obtain ⟨rfl, rfl⟩ := q
  have q1 : s1n = 19 := q1
  have q2 : s1k = 1000 := q2
  subst q1; subst q2
  -- the deferred call
  have g2 : RA σ1 β1 (.ptr 1002 0) (a1.tmps.getD 2 undef) := r1.tmp 2
  have g3 : RA σ1 β1 (.ptr 1003 0) (a1.tmps.getD 3 undef) := r1.tmp 3
  generalize hp2 : a1.tmps.getD 2 undef = p2 at g2
  generalize hp3 : a1.tmps.getD 3 undef = p3 at g3
  have hsz : a1.tmps.size = 19 := r1.size
  have hdf : a1.defers = [] := r1.defs
  refine wp_seq (wp_region ?_)
  show wpOps Tryd.prog #[o23a, o23b] _ [0, 1] a1 w1
  have e0 : (#[o23a, o23b] : Array Oper)[0]? = some o23a := rfl
  have e1 : (#[o23a, o23b] : Array Oper)[1]? = some o23b := rfl
  have hw : ∀ y, Region.wanted o23a y = true := fun y => by simp [Region.wanted, o23a]
  have hw2 : ∀ y, Region.wanted o23b y = true := fun y => by simp [Region.wanted, o23b]
  rw [wpOps_cons, wpOp, e0]
  simp only [hw, if_true]
  left
  unfold Oper.wp
  rw [run_mk, Oper.upon_value, hp2, hp3]
  rw [wpOps_cons, wpOp, e1]
  simp only [hw2, if_true]
  left
  unfold Oper.wp
  have h5 : (a1.put o23a.dst (.func (.func 35) #[] #[p2, p3])).tmps.getD 5 undef = .func (.func 35) #[] #[p2, p3] := by
    show (a1.tmps.setIfInBounds 5 _).getD 5 undef = _
    rw [getD_set _ _ _ _ (by omega), if_pos rfl]
  rw [run_df h5]
  generalize hv5 : (Value.func (.func 35) #[] #[p2, p3]) = v5 at h5
  generalize hdd : (⟨.fn (.func 35) #[p2, p3], #[]⟩ : Deferred) = dd
  have r2 : Rel ⟨Xb, [dd]⟩ σ1 β1 ⟨19, 2000, [(3, .ptr 1003 0), (2, .ptr 1002 0), (0, .d (.sl 1 (byt L)))], [(1003, [.d (.int .i64 0)]), (1002, [.d (.sl 10 []), .d (.sl 10 []), .d (.sl 1 [])])], []⟩
      ⟨(a1.put (some 5) v5).tmps, [dd]⟩ w1 := by
    have k1 := r1.put (d := 5) (x := .any) (v := v5) (by show 5 < 19; decide) (.any _)
    have k2 : Rel ⟨Xb, []⟩ σ1 β1 ⟨19, 2000, [(3, .ptr 1003 0), (2, .ptr 1002 0), (0, .d (.sl 1 (byt L)))], [(1003, [.d (.int .i64 0)]), (1002, [.d (.sl 10 []), .d (.sl 10 []), .d (.sl 1 [])])], []⟩ (a1.put (some 5) v5) w1 := by
      refine k1.sub rfl rfl (fun i => ?_) (fun p hp => by cases hp)
      simp only [St.set, look_cons]
      by_cases e5 : i = 5
      · left; subst e5; simp [look]
      · right; simp [e5]
    exact k2.atD [dd]
  rw [Oper.upon_defer]
  have hact : ({ (a1.put o23a.dst v5) with defers := dd :: (a1.put o23a.dst v5).defers } : Act).put o23b.dst undef = ⟨(a1.put (some 5) v5).tmps, [dd]⟩ := by
    show (⟨(a1.put (some 5) v5).tmps, dd :: a1.defers⟩ : Act) = _
    rw [hdf]
  rw [hact]
  show Code.wp Tryd.prog whB _ _ w1
  refine wp_mono (wh_rest hb h _ σ1 β1 _ w1 r2) ?_
  rintro en a2 w2 ⟨ax, s2, σ2, β2, q, q1, q2, ex, r3, st2⟩
  have hnm : ∀ n, n < 2000 → β2 n = β1 n := st2.names
  have f2 : RA σ2 β2 (.ptr 1002 0) p2 := by cases g2 with | ptr _ _ b hb => exact .ptr _ _ b (by rw [hnm _ (by decide)]; exact hb)
  have f3 : RA σ2 β2 (.ptr 1003 0) p3 := by cases g3 with | ptr _ _ b hb => exact .ptr _ _ b (by rw [hnm _ (by decide)]; exact hb)
  have stAll : Step ⟨Xb, []⟩ KB σ β w σ2 β2 w2 := st1.trans ((st2.atD (df := [])).atK (show 1000 ≤ 2000 by decide))
  have hds : a2.defers = [dd] := r3.defs
  cases ax with
  | exit i => exact q.elim
  | goto i => exact q.elim
  | normal => exact q.elim
  | ret =>
    cases en <;> simp only [ExRel] at ex
    obtain ⟨hn, hfin⟩ := q
    show Leaves Tryd.prog _ a2.tmps _ a2.defers .returning w2
    rw [hds, ← hdd]
    refine leaves_cons (by simp) run_inv ((cd_whole1n (X := ⟨Xb, []⟩) (σ := σ2) (β := β2) (bx := s2.bx) ⟨a2.tmps, ?_⟩).mono ?_)
    · exact r3.frame a2.tmps.size 5000 [] a2.tmps rfl (fun i => .any _)
    · rintro e u' w3 ⟨⟨r, rfl⟩, rfl, σ3, β3, s3, a3, hb3, r4, st3⟩
      have r5 := (r3.reframe r4 rfl st3 hn).atD []
      rw [hb3] at r5
      obtain ⟨_, v, hrun, o, σ4, β4, hR, hO, hS⟩ := ends_of (P := Tryd.prog) (fn := Tryd.f23) rfl r5 r23 (stAll.trans (st3.atK (by decide))) hfin
      exact ⟨v, hrun, o, σ4, β4, hR, hO, hS⟩
  | panic x =>
    cases en <;> simp only [ExRel] at ex
    obtain ⟨v, rfl, hrd⟩ := ex
    obtain ⟨e, rfl, hwk, hR⟩ := q
    show Leaves Tryd.prog _ a2.tmps _ a2.defers (.panicking [{ v, recovered := false }]) w2
    rw [hds, ← hdd]
    obtain ⟨w1n, w1k, hwk⟩ := hwk
    obtain ⟨σ3, β3, r4, st3⟩ := hwk _ σ2 β2 a2 w2 r3
    rw [q2] at st3
    have hnm3 : ∀ n, n < 2000 → β3 n = β2 n := st3.names
    have f2' : RA σ3 β3 (.ptr 1002 0) p2 := by cases f2 with | ptr _ _ b hb => exact .ptr _ _ b (by rw [hnm3 _ (by decide)]; exact hb)
    have f3' : RA σ3 β3 (.ptr 1003 0) p3 := by cases f3 with | ptr _ _ b hb => exact .ptr _ _ b (by rw [hnm3 _ (by decide)]; exact hb)
    have stAll3 : Step ⟨Xb, []⟩ KB σ β w σ3 β3 w2 := stAll.trans ((st3.atD (df := [])).atK (show 1000 ≤ 2000 by decide))
    refine leaves_cons (by simp) run_inv ((cd_whole1 (X := ⟨Xb, []⟩) (σ := σ3) (β := β3) (e := e) f2' f3' (hrd.mono st3.le) ⟨a2.tmps, ?_⟩).mono ?_)
    · exact r4.frame a2.tmps.size 5000 [] a2.tmps rfl (fun i => .any _)
    · rintro en u' w3 ⟨⟨r, rfl⟩, rfl, σ4, β4, a4, r5, st4⟩
      have r6 := (r4.reframe r5 rfl st4 (fun n cs hn => by
        simp only [lookB_cons] at hn
        split at hn
        · omega
        · split at hn
          · omega
          · cases hn)).atD []
      obtain ⟨_, v, hrun, o, σ5, β5, hR, hO, hS⟩ := ends_of (P := Tryd.prog) (fn := Tryd.f23) (R := R) rfl r6 r23 (stAll3.trans (st4.atK (by decide))) (by
        show vcFin _ ⟨19, 2000, [(3, .ptr 1003 0), (2, .ptr 1002 0)], (stB e true true true true true).bx, []⟩ R
        simp (maxSteps := 10000000) -dsimp only [go_sem, simprocAttr, stB, fil0]
        exact hR)
      exact ⟨v, hrun, o, σ5, β5, hR, hO, hS⟩

end Go.Vx

/- Reading a return. -/
namespace Go.Vx
set_option linter.unusedVariables false
set_option linter.unusedSimpArgs false
open Go Go.Proofs
set_option linter.unusedSimpArgs false
set_option linter.unusedVariables false
set_option maxRecDepth 10000
set_option maxHeartbeats 4000000

def ks32 : List Nat := List.replicate 32 1
/-- The cells of no return. -/
def retN : List A := yc (List.replicate 32 0) ++ [.nil 10, .nil 10, .nil 1]
def retZ : List A := yc (List.replicate 32 0) ++ fil0
theorem retN_len : retN.length = 35 := by simp [retN, yc_len]
theorem retZ_len : retZ.length = 35 := by simp [retZ, yc_len, fil0]
theorem retN_all : retN.all isCell = true := by rw [retN, List.all_append, all_yc]; rfl
theorem renL_retN {ρ} : renL ρ retN = some retN := by
  rw [retN, renL_app, renL_yc]; rfl
theorem retN_take : retN.take 35 = retN := List.take_of_length_le (by rw [retN_len]; exact Nat.le_refl _)
theorem lay_retZ {r : List A} (h : r.length = 35) : lay retZ 0 r = r := lay_all (by rw [h, retZ_len])
theorem eq_rep : ∀ {n : Nat} {S T : List Int}, S.length = n → T.length = n → eqCells (List.replicate n 1) (yc S) (yc T) = some (decide (S = T))
  | 0, S, T, h1, h2 => by
    rw [List.length_eq_zero_iff] at h1 h2
    subst h1; subst h2; rfl
  | n + 1, [], _, h1, _ => by cases h1
  | n + 1, _ :: _, [], _, h2 => by cases h2
  | n + 1, x :: S, y :: T, h1, h2 => by
    show eqCells (1 :: List.replicate n 1) (.d (.int .u8 x) :: yc S) (.d (.int .u8 y) :: yc T) = _
    rw [eqCells_c, eqCell_1, eq_rep (n := n) (by simpa using h1) (by simpa using h2)]
    simp only [Option.bind_some, Option.map_some, List.cons.injEq]
    congr 1
    by_cases hx : x = y <;> by_cases hS : S = T <;> simp [hx, hS]
theorem eq_ks {S T : List Int} (h1 : S.length = 32) (h2 : T.length = 32) : eqCells ks32 (yc S) (yc T) = some (decide (S = T)) := eq_rep h1 h2
attribute [irreducible] ks32 retN retZ
attribute [go_sem] retN_len retZ_len retN_all renL_retN retN_take

/-- What reading answers. -/
def parseR (B : List Int) : Except Int (List Int × Fil) :=
  if 4194304 < B.length then .error 3
  else if B.length < 68 then .error 251
  else if B.take 4 ≠ [69, 88, 67, 49] then .error 252
  else if shaF (B.take (B.length - 32)) ≠ B.drop (B.length - 32) then .error 253
  else match wholeF ((B.take (B.length - 32)).drop 36) with
    | .err e => .error e
    | .ok f _ => if okRet f = true then .ok ((B.drop 4).take 32, f) else .error 252
def parseO (B : List Int) : Out := match parseR B with
  | .ok (dig, f) => .ret [.agg ((dig.map (D.int .u8) ++ encF f).map .d), .d (.int .i64 0)] [] []
  | .error e => .ret [.agg retN, .d (.int .i64 e)] [] []

/-- excise/efile.Parse -/
def c8 : AC :=
  .seq (.reg [⟨(some 2), none, .op (.alloc retZ [(32, 10), (33, 10), (34, 1)])⟩,
    ⟨(some 3), none, .op (.mv (.c (.d (.int .i64 0))) true)⟩]) <|
  .seq (.reg [⟨(some 8), none, .op (.mv (.t 0) false)⟩,
    ⟨(some 9), none, .op (.len (.t 8))⟩,
    ⟨(some 10), none, .op (.bin .sub (.t 9) (.c (.d (.int .i64 32))))⟩,
    ⟨(some 4), none, .op (.mv (.t 10) true)⟩]) <|
  .seq (.block 0 (
    .seq (.reg [⟨(some 12), none, .op (.mv (.t 0) false)⟩,
      ⟨(some 13), none, .op (.len (.t 12))⟩,
      ⟨(some 14), none, .op (.bin .gtr (.t 13) (.c (.d (.int .i64 4194304))))⟩,
      ⟨(some 11), none, .op (.mv (.t 14) true)⟩]) <|
    .cond (.t 11) (.seq (.reg [⟨(some 15), none, .op (.build retN [])⟩,
        ⟨none, none, .op (.store 35 (.t 2) (.t 15))⟩,
        ⟨(some 3), none, .op (.mv (.c (.d (.int .i64 3))) true)⟩]) <|
      .ret) (.seq (.reg [⟨(some 17), none, .op (.mv (.t 4) false)⟩,
        ⟨(some 18), none, .op (.bin .lss (.t 17) (.c (.d (.int .i64 36))))⟩,
        ⟨(some 16), none, .op (.mv (.t 18) true)⟩]) <|
      .cond (.t 16) (.seq (.reg [⟨(some 19), none, .op (.build retN [])⟩,
          ⟨none, none, .op (.store 35 (.t 2) (.t 19))⟩,
          ⟨(some 3), none, .op (.mv (.c (.d (.int .i64 251))) true)⟩]) <|
        .ret) (.seq (.reg [⟨(some 21), none, .op (.mv (.t 0) true)⟩,
          ⟨(some 22), none, .op (.slc 1 (.t 21) none (some (.c (.d (.int .i64 4)))) false)⟩,
          ⟨(some 23), none, .op (.cvs (.t 22))⟩,
          ⟨(some 24), none, .op (.bin .neq (.t 23) (.c (.d (.str [69, 88, 67, 49]))))⟩,
          ⟨(some 20), none, .op (.mv (.t 24) true)⟩]) <|
        .cond (.t 20) (.seq (.reg [⟨(some 25), none, .op (.build retN [])⟩,
            ⟨none, none, .op (.store 35 (.t 2) (.t 25))⟩,
            ⟨(some 3), none, .op (.mv (.c (.d (.int .i64 252))) true)⟩]) <|
          .ret) (.seq (.draw [⟨0, ⟨(some 27), none, .op (.mv (.t 0) true)⟩, []⟩,
            ⟨1, ⟨(some 28), none, .op (.mv (.t 4) false)⟩, []⟩,
            ⟨2, ⟨(some 29), none, .op (.slc 1 (.t 27) none (some (.t 28)) false)⟩, [0, 1]⟩,
            ⟨3, ⟨(some 30), none, .op (.bslc 1 1 [.sl 1 []] [(0, 1, (.t 29))])⟩, [2, 0, 1]⟩,
            ⟨4, ⟨(some 31), none, .call 22 [(.t 30)] none⟩, [3, 2, 0, 1]⟩,
            ⟨5, ⟨(some 32), none, .op (.mv (.t 0) true)⟩, []⟩,
            ⟨6, ⟨(some 33), none, .op (.mv (.t 4) false)⟩, []⟩,
            ⟨7, ⟨(some 34), none, .op (.slc 1 (.t 32) (some (.t 33)) none false)⟩, [5, 6]⟩,
            ⟨8, ⟨(some 35), none, .op (.s2a 32 1 (.t 34))⟩, [7, 5, 6]⟩,
            ⟨9, ⟨(some 36), none, .op (.load true 32 (.t 35) false)⟩, [8, 7, 5, 6]⟩,
            ⟨10, ⟨(some 37), none, .op (.eqs true ks32 (.t 31) (.t 36))⟩, [4, 3, 2, 0, 1, 9, 8, 7, 5, 6]⟩,
            ⟨11, ⟨(some 26), none, .op (.mv (.t 37) true)⟩, [10, 9, 8, 7, 5, 6, 4, 3, 2, 0, 1]⟩]) <|
          .cond (.t 26) (.seq (.reg [⟨(some 38), none, .op (.build retN [])⟩,
              ⟨none, none, .op (.store 35 (.t 2) (.t 38))⟩,
              ⟨(some 3), none, .op (.mv (.c (.d (.int .i64 253))) true)⟩]) <|
            .ret) (.skip)))))) <|
  .seq (.reg [⟨(some 40), none, .op (.mv (.t 0) true)⟩,
    ⟨(some 41), none, .op (.mv (.t 4) false)⟩,
    ⟨(some 42), none, .op (.slc 1 (.t 40) (some (.c (.d (.int .i64 36)))) (some (.t 41)) false)⟩,
    ⟨(some 43), none, .call 23 [(.t 42)] none⟩,
    ⟨(some 39), none, .op (.mv (.t 43) false)⟩,
    ⟨(some 44), none, .op (.ext (.t 39) 0)⟩,
    ⟨(some 45), none, .op (.ext (.t 39) 1)⟩,
    ⟨(some 5), none, .op (.alloc [.d (.sl 10 []), .d (.sl 10 []), .d (.sl 1 [])] [(0, 10), (1, 10), (2, 1)])⟩,
    ⟨none, none, .op (.store 3 (.t 5) (.t 44))⟩,
    ⟨(some 6), none, .op (.mv (.t 45) true)⟩]) <|
  .seq (.seq (.reg [⟨(some 46), none, .op (.mv (.t 6) false)⟩,
    ⟨(some 47), none, .op (.bin .neq (.t 46) (.c (.d (.int .i64 0))))⟩]) <|
  .cond (.t 47) (.seq (.reg [⟨(some 48), none, .op (.build retN [])⟩,
      ⟨(some 49), none, .op (.mv (.t 6) false)⟩,
      ⟨none, none, .op (.store 35 (.t 2) (.t 48))⟩,
      ⟨(some 3), none, .op (.mv (.t 49) true)⟩]) <|
    .ret) (.skip)) <|
  .seq (.draw [⟨0, ⟨(some 50), none, .op (.mv (.t 0) true)⟩, []⟩,
    ⟨1, ⟨(some 51), none, .op (.slc 1 (.t 50) (some (.c (.d (.int .i64 4)))) none false)⟩, [0]⟩,
    ⟨2, ⟨(some 52), none, .op (.s2a 32 1 (.t 51))⟩, [1, 0]⟩,
    ⟨3, ⟨(some 53), none, .op (.load true 32 (.t 52) false)⟩, [2, 1, 0]⟩,
    ⟨4, ⟨(some 54), none, .op (.load true 3 (.t 5) false)⟩, []⟩,
    ⟨5, ⟨(some 55), none, .op (.build retN [(0, 32, (.t 53)), (32, 3, (.t 54))])⟩, [3, 2, 1, 0, 4]⟩,
    ⟨6, ⟨(some 7), none, .op (.alloc retZ [(32, 10), (33, 10), (34, 1)])⟩, []⟩,
    ⟨7, ⟨none, none, .op (.store 35 (.t 7) (.t 55))⟩, [5, 3, 2, 1, 0, 4, 6]⟩]) <|
  .seq (.seq (.reg [⟨(some 56), none, .op (.load true 35 (.t 7) false)⟩,
    ⟨(some 57), none, .call 12 [(.t 56)] none⟩,
    ⟨(some 58), none, .op (.bin .neq (.t 57) (.c (.d (.int .i64 0))))⟩]) <|
  .cond (.t 58) (.seq (.reg [⟨(some 59), none, .op (.build retN [])⟩,
      ⟨none, none, .op (.store 35 (.t 2) (.t 59))⟩,
      ⟨(some 3), none, .op (.mv (.c (.d (.int .i64 252))) true)⟩]) <|
    .ret) (.skip)) <|
  .seq (.reg [⟨(some 60), none, .op (.load true 35 (.t 7) true)⟩,
    ⟨none, none, .op (.store 35 (.t 2) (.t 60))⟩,
    ⟨(some 3), none, .op (.mv (.c (.d (.int .i64 0))) true)⟩]) <|
  .ret
theorem k8 : Tryd.f8.body.bind (comp Tryd.prog [] Tryd.f8.ntmps) = some c8 := by kernel_rfl
theorem r8 : cRes Tryd.prog Tryd.f8.results.toList = some [.c 2 true 35, .t 3] := by kernel_rfl

theorem cs_parse {B : List Int} {R : Out → Prop} (hb : ∀ x, x ∈ B → 0 ≤ x ∧ x < 256) (h : R (parseO B)) : CS Tryd.prog 8 [.d (.sl 1 (byt B))] [] [] R := by
  refine CS.go0 Tryd.func8 k8 r8 (by kernel_rfl) ?_
  unfold c8
  simp (maxSteps := 10000000) -dsimp only [go_sem, simprocAttr]
  refine kImp_intro (fun hl => ?_)
  have ew : IntKind.i64.wrap ((B.length : Int) - 32) = (B.length : Int) - 32 := wrap_i64 (by omega) (by omega)
  simp (maxSteps := 10000000) -dsimp only [go_sem, simprocAttr, ew]
  refine kImp_intro (fun _ => ?_)
  simp (maxSteps := 10000000) -dsimp only [go_sem, simprocAttr]
  have fin : ∀ e, parseR B = .error e → R (.ret [.agg retN, .d (.int .i64 e)] [] []) := fun e he => by
    simpa only [parseO, he] using h
  refine kIf_intro (fun h1 => ?_) (fun h1 => ?_)
  · simp (maxSteps := 10000000) -dsimp only [go_sem, simprocAttr, lay_retZ retN_len]
    refine fin 3 ?_
    rw [parseR, if_pos (by simp at h1; omega)]
  have n1 : ¬ 4194304 < B.length := by simp at h1; omega
  simp (maxSteps := 10000000) -dsimp only [go_sem, simprocAttr]
  refine kIf_intro (fun h2 => ?_) (fun h2 => ?_)
  · simp (maxSteps := 10000000) -dsimp only [go_sem, simprocAttr, lay_retZ retN_len]
    refine fin 251 ?_
    rw [parseR, if_neg n1, if_pos (by simp at h2; omega)]
  have n2 : ¬ B.length < 68 := by simp at h2; omega
  obtain ⟨N, hN⟩ : ∃ N, B.length = N + 32 := ⟨B.length - 32, by omega⟩
  have eN : (B.length : Int) - 32 = N := by omega
  have eN2 : B.length - 32 = N := by omega
  simp (maxSteps := 10000000) -dsimp only [go_sem, simprocAttr]
  refine kImp_intro (fun _ => ?_)
  simp (maxSteps := 10000000) -dsimp only [go_sem, simprocAttr]
  refine kAnd_intro (by omega) ?_
  simp (maxSteps := 10000000) -dsimp only [go_sem, simprocAttr]
  refine kImp_intro (fun _ => ?_)
  refine ⟨_, text_bytes (fun x hx => hb x (List.mem_of_mem_take hx)), ?_⟩
  simp (maxSteps := 10000000) -dsimp only [go_sem, simprocAttr]
  have hhead : (((B.take 4).map fun c => UInt8.ofNat c.toNat) == [69, 88, 67, 49]) = decide (B.take 4 = [69, 88, 67, 49]) := by
    have h4 : (B.take 4).length = 4 := by rw [List.length_take]; omega
    have hb4 : ∀ x, x ∈ B.take 4 → 0 ≤ x ∧ x < 256 := fun x hx => hb x (List.mem_of_mem_take hx)
    generalize B.take 4 = T at h4 hb4
    obtain ⟨a, b, c, d, rfl⟩ : ∃ a b c d, T = [a, b, c, d] := by
      match T, h4 with
      | [a, b, c, d], _ => exact ⟨a, b, c, d, rfl⟩
    have one : ∀ (x : Int) (n : Nat), 0 ≤ x → x < 256 → n < 256 → (UInt8.ofNat x.toNat = UInt8.ofNat n ↔ x = n) := by
      intro x n h0 h1 h2
      constructor
      · intro e
        have := congrArg UInt8.toNat e
        rw [UInt8.toNat_ofNat', UInt8.toNat_ofNat'] at this
        omega
      · rintro rfl; simp
    have ha := hb4 a (by simp)
    have hb' := hb4 b (by simp)
    have hc := hb4 c (by simp)
    have hd := hb4 d (by simp)
    have e1 := one a 69 ha.1 ha.2 (by decide)
    have e2 := one b 88 hb'.1 hb'.2 (by decide)
    have e3 := one c 67 hc.1 hc.2 (by decide)
    have e4 := one d 49 hd.1 hd.2 (by decide)
    rw [Bool.eq_iff_iff]
    simp only [List.map_cons, List.map_nil, beq_iff_eq, List.cons.injEq, and_true, decide_eq_true_eq]
    exact and_congr e1 (and_congr e2 (and_congr e3 e4))
  refine kIf_intro (fun h3 => ?_) (fun h3 => ?_)
  · simp (maxSteps := 10000000) -dsimp only [go_sem, simprocAttr, lay_retZ retN_len]
    refine fin 252 ?_
    rw [parseR, if_neg n1, if_neg n2, if_pos]
    rw [bne, hhead] at h3
    simpa using h3
  have n3 : B.take 4 = [69, 88, 67, 49] := by
    rw [bne, hhead] at h3
    simpa using h3
  clear h3 hhead
  have d0 : ∀ l : List Int, l.drop 0 = l := fun _ => rfl
  simp (maxSteps := 10000000) -dsimp only [go_sem, simprocAttr, eN]
  refine kAnd_intro (by omega) ?_
  simp (maxSteps := 10000000) -dsimp only [go_sem, simprocAttr, d0]
  refine kDC_intro _ (cs_sum (R := fun o => o = .ret [.agg (yc (shaF (B.take N)))] [] []) rfl) (fun _ => by simp (maxSteps := 10000000) -dsimp only [go_sem, simprocAttr]) (fun _ => by simp (maxSteps := 10000000) -dsimp only [go_sem, simprocAttr]) ⟨rfl, by simp (maxSteps := 10000000) -dsimp only [go_sem, simprocAttr]⟩ ?_
  simp (maxSteps := 10000000) -dsimp only [go_sem, simprocAttr]
  have hDl : (B.drop N).length = 32 := by rw [List.length_drop]; omega
  have hD32 : (B.drop N).take 32 = B.drop N := List.take_of_length_le (by omega)
  have hSl := shaF_len (b := B.take N)
  have hTl : B.take B.length = B := List.take_length
  refine kAnd_intro (by omega) ?_
  simp (maxSteps := 10000000) -dsimp only [go_sem, simprocAttr, hTl]
  refine kAnd_intro (by omega) ?_
  simp (maxSteps := 10000000) -dsimp only [go_sem, simprocAttr, hTl]
  refine kAnd_intro (by omega) ?_
  simp (maxSteps := 10000000) -dsimp only [go_sem, simprocAttr, hDl, hD32, eq_ks hSl hDl]
  refine kIf_intro (fun h4 => ?_) (fun h4 => ?_)
  · simp (maxSteps := 10000000) -dsimp only [go_sem, simprocAttr, lay_retZ retN_len]
    refine fin 253 ?_
    rw [parseR, if_neg n1, if_neg n2, if_neg (by simpa using n3), if_pos]
    rw [eN2]
    simpa using h4
  have n4 : shaF (B.take N) = B.drop N := by simpa using h4
  simp (maxSteps := 10000000) -dsimp only [go_sem, simprocAttr]
  refine kImp_intro (fun _ => ?_)
  simp (maxSteps := 10000000) -dsimp only [go_sem, simprocAttr]
  refine kAnd_intro (by omega) ?_
  simp (maxSteps := 10000000) -dsimp only [go_sem, simprocAttr]
  refine kCS_intro (cs_whole (fun x hx => hb x (List.mem_of_mem_take (List.mem_of_mem_drop hx))) ?_)
  have n4' : ¬ shaF (B.take (B.length - 32)) ≠ B.drop (B.length - 32) := by rw [eN2]; simpa using n4
  unfold wholeO
  cases hw : wholeF ((B.take N).drop 36) with
  | err e =>
    have he : isErr e := by
      unfold wholeF at hw
      split at hw
      · cases hw
      · cases hw; exact .inr rfl
      · rename_i e' hr; cases hw; exact rowF_err hr
    have he0 : (e != 0) = true := by rcases he with rfl | rfl <;> rfl
    have hp : parseR B = .error e := by
      rw [parseR, if_neg n1, if_neg n2, if_neg (by simpa using n3), if_neg n4', eN2, hw]
    simp (maxSteps := 10000000) -dsimp only [go_sem, simprocAttr, fil0, he0, lay_retZ retN_len]
    exact fin e hp
  | ok f r =>
    obtain ⟨v, l, k⟩ := f
    simp (maxSteps := 10000000) -dsimp only [go_sem, simprocAttr, encF]
    have hd4 : (B.drop 4).length = B.length - 4 := List.length_drop
    obtain ⟨dg, hD⟩ : ∃ dg, dg = (B.drop 4).take 32 := ⟨_, rfl⟩
    have hDl' : dg.length = 32 := by rw [hD, List.length_take, hd4]; omega
    have f1 : lay retN 0 (yc dg) = yc dg ++ [.nil 10, .nil 10, .nil 1] := by
      have : retN = yc (List.replicate 32 0) ++ [.nil 10, .nil 10, .nil 1] := by unfold retN; rfl
      rw [this, lay_eq _ _ _ (by simp [yc_len]; omega)]
      simp only [List.take_zero, List.nil_append, Nat.zero_add, yc_len, hDl']
      rw [List.drop_left' (by simp [yc_len])]
    have f2 : ∀ a b c : A, (((yc dg ++ [A.nil 10, .nil 10, .nil 1]).set 32 a).set 33 b).set 34 c = yc dg ++ [a, b, c] := fun a b c => by
      rw [List.set_append_right _ _ (by rw [yc_len]; omega), List.set_append_right _ _ (by rw [yc_len]; omega), List.set_append_right _ _ (by rw [yc_len]; omega), yc_len, hDl']
      rfl
    refine kAnd_intro (by omega) ?_
    simp (maxSteps := 10000000) -dsimp only [go_sem, simprocAttr, hTl]
    refine kAnd_intro (by rw [hd4]; omega) ?_
    simp (maxSteps := 10000000) -dsimp only [go_sem, simprocAttr, hTl]
    refine kAnd_intro (by rw [hd4]; omega) ?_
    simp (maxSteps := 10000000) -dsimp only [go_sem, simprocAttr, hTl, ← hD, hDl', f1, f2]
    have g1 : (yc dg ++ [A.d (.sl 10 (v.map encV)), .d (.sl 10 (l.map encV)), .d (.sl 1 (encK k))]).length = 35 := by simp [yc_len, hDl']
    have g2 : (yc dg ++ [A.d (.sl 10 (v.map encV)), .d (.sl 10 (l.map encV)), .d (.sl 1 (encK k))]).all isCell = true := by rw [List.all_append, all_yc]; rfl
    have g3 : (yc dg ++ [A.d (.sl 10 (v.map encV)), .d (.sl 10 (l.map encV)), .d (.sl 1 (encK k))]) = (dg.map (D.int .u8) ++ encF (.mk v l k)).map A.d := by
      rw [List.map_append, map_yc]; rfl
    generalize (yc dg ++ [A.d (.sl 10 (v.map encV)), .d (.sl 10 (l.map encV)), .d (.sl 1 (encK k))]) = Z at g1 g2 g3
    have g4 : Z.take 35 = Z := List.take_of_length_le (by omega)
    have g5 : ∀ ρ, renL ρ Z = some Z := fun ρ => by rw [g3]; exact renL_ds
    simp (maxSteps := 10000000) -dsimp only [go_sem, simprocAttr, g1, g2, g4, g5, lay_retZ g1]
    rw [hD] at g3
    have chk : ∀ R : Out → Prop, R (.ret [.d (.int .i64 (if okRet (.mk v l k) = true then 0 else 250))] [] []) → CS Tryd.prog 12 [.agg Z] [] [] R := fun R h => by
      rw [g3]; exact cs_check (by rw [← hD]; exact hDl') h
    refine kCS_intro (chk _ ?_)
    cases hk : okRet (.mk v l k) with
    | false =>
      have hp : parseR B = .error 252 := by
        rw [parseR, if_neg n1, if_neg n2, if_neg (by simpa using n3), if_neg n4', eN2, hw]
        simp only [hk, Bool.false_eq_true, if_false]
      simp (maxSteps := 10000000) -dsimp only [go_sem, simprocAttr, lay_retZ retN_len]
      exact fin 252 hp
    | true =>
      have hp : parseR B = .ok ((B.drop 4).take 32, .mk v l k) := by
        rw [parseR, if_neg n1, if_neg n2, if_neg (by simpa using n3), if_neg n4', eN2, hw]
        simp only [hk, if_true]
      simp (maxSteps := 10000000) -dsimp only [go_sem, simprocAttr, g1, g2, g4, g5, lay_retZ g1]
      simpa only [parseO, hp, ← g3] using h

end Go.Vx

/- Plain law: packing and reading are inverse. -/
namespace Go.Vx
set_option linter.unusedVariables false
set_option linter.unusedSimpArgs false
open Go Go.Proofs
set_option linter.unusedSimpArgs false
set_option linter.unusedVariables false
set_option maxRecDepth 10000
set_option maxHeartbeats 1000000

theorem u8_isB {x : Int} : 0 ≤ u8 x ∧ u8 x < 256 := by rw [u8, wrap_u8]; omega
theorem sgn_isB {n : Bool} {s : Int} : 0 ≤ sgn n s ∧ sgn n s < 256 := by
  unfold sgn
  split
  · show 0 ≤ IntKind.u8.wrap _ ∧ IntKind.u8.wrap _ < 256
    rw [wrap_u8]; omega
  · exact u8_isB
theorem packV_isB {v : Val} (h : rngV v) : isB (packV v) := by
  rw [packV_kind, isB_cons]
  refine ⟨u8_isB, ?_⟩
  split
  · rw [numP, isB_cons, isB_cons]
    exact ⟨sgn_isB, u8_isB, (digits_rng h).1⟩
  · split
    · rw [isB_cons]
      refine ⟨?_, fun x hx => by cases hx⟩
      split <;> omega
    · split
      · rw [isB_cons]
        refine ⟨u8_isB, fun x hx => ?_⟩
        obtain ⟨c, _, rfl⟩ := List.mem_map.1 hx
        have := c.toNat_lt
        omega
      · split
        · rw [isB_cons]; exact ⟨u8_isB, fun x hx => by cases hx⟩
        · exact fun x hx => by cases hx
theorem seg_isB {vs : List Val} (h : ∀ x, x ∈ vs → rngV x) : isB (seg vs) := by
  rw [seg, isB_cons]
  refine ⟨u8_isB, fun x hx => ?_⟩
  obtain ⟨v, hv, hx⟩ := List.mem_flatMap.1 hx
  exact packV_isB (h v hv) x hx
mutual
theorem packF_isB : ∀ f : Fil, rngF f → isB (packF f)
  | .mk v l k, h => by
    rw [packF_seg2]
    simp only [rngF] at h
    exact isB_app.2 ⟨seg_isB h.1, isB_app.2 ⟨seg_isB h.2.1, isB_cons.2 ⟨u8_isB, packK_isB k h.2.2⟩⟩⟩
theorem packK_isB : ∀ k : List (List Fil), rngK k → isB (packK k)
  | [], _ => fun x hx => by simp [packK] at hx
  | r :: k, h => by
    simp only [rngK] at h
    rw [packK]
    exact isB_app.2 ⟨isB_cons.2 ⟨u8_isB, isB_cons.2 ⟨u8_isB, packR_isB r h.1⟩⟩, packK_isB k h.2⟩
theorem packR_isB : ∀ r : List Fil, rngR r → isB (packR r)
  | [], _ => fun x hx => by simp [packR] at hx
  | f :: r, h => by
    simp only [rngR] at h
    rw [packR]
    exact isB_app.2 ⟨packF_isB f h.1, packR_isB r h.2⟩
end

theorem shaF_isB {b : List Int} : isB (shaF b) := by
  intro x hx
  unfold shaF at hx
  obtain ⟨w, _, hx⟩ := List.mem_flatMap.1 hx
  simp only [wordB, List.mem_cons, List.not_mem_nil, or_false] at hx
  rcases hx with rfl | rfl | rfl | rfl <;> exact u8_isB

theorem wholeF_pack {f : Fil} (h : okRet f = true) (hr : rngF f) : wholeF (packF f) = .ok f [] := by
  have := rowF_pack ((packF f).length + 1) 0 f (okRet_n h).1 hr [] (by omega)
  rw [List.append_nil] at this
  rw [wholeF, this]

/-- WHAT IS PACKED IS READ. -/
theorem parse_pack {dig : List Int} {f : Fil} {B : List Int} (hd : dig.length = 32) (hb : isB dig) (hr : rngF f) (h : pakR dig f = .ok B) : parseR B = .ok (dig, f) ∧ isB B := by
  unfold pakR at h
  split at h
  · rename_i hk
    split at h
    · rename_i hl
      cases h
      have hbl : (bodyB dig f).length = 36 + (packF f).length := by simp [bodyB, hd]; omega
      have hS := shaF_len (b := bodyB dig f)
      have hfl : (fileB dig f).length = (bodyB dig f).length + 32 := by rw [fileB, List.length_append, hS]
      have hsub : (fileB dig f).length - 32 = (bodyB dig f).length := by omega
      have t1 : (fileB dig f).take (bodyB dig f).length = bodyB dig f := by rw [fileB]; exact List.take_left' rfl
      have t2 : (fileB dig f).drop (bodyB dig f).length = shaF (bodyB dig f) := by rw [fileB]; exact List.drop_left' rfl
      have eb : bodyB dig f = [69, 88, 67, 49] ++ (dig ++ packF f) := by simp [bodyB]
      have ef : fileB dig f = [69, 88, 67, 49] ++ (dig ++ (packF f ++ shaF (bodyB dig f))) := by simp [fileB, bodyB]
      have t3 : (fileB dig f).take 4 = [69, 88, 67, 49] := by rw [ef]; exact List.take_left' rfl
      have t4 : (fileB dig f).drop 4 = dig ++ (packF f ++ shaF (bodyB dig f)) := by rw [ef]; exact List.drop_left' rfl
      have t5 : (bodyB dig f).drop 36 = packF f := by
        rw [eb, ← List.append_assoc]; exact List.drop_left' (by simp [hd])
      have p3 : 0 < (packF f).length := by cases f; simp [packF]
      refine ⟨?_, ?_⟩
      · rw [parseR, if_neg (by omega), if_neg (by omega), if_neg (by rw [t3]; simp), hsub, t1, t2, if_neg (by simp), t5, wholeF_pack hk hr]
        simp only [hk, if_true, t4]
        rw [List.take_left' hd]
      · rw [ef]
        refine isB_app.2 ⟨?_, isB_app.2 ⟨hb, isB_app.2 ⟨packF_isB f hr, shaF_isB⟩⟩⟩
        intro x hx
        simp only [List.mem_cons, List.not_mem_nil, or_false] at hx
        rcases hx with rfl | rfl | rfl | rfl <;> decide
    · cases h
  · cases h

theorem wholeF_back {L : List Int} {f : Fil} {r : List Int} (hb : isB L) (h : wholeF L = .ok f r) : L = packF f := by
  unfold wholeF at h
  split at h
  · rename_i g hg
    cases h
    have := rowF_back hb hg
    rw [this, List.append_nil]
  · cases h
  · cases h

/-- WHAT IS READ IS PACKED. -/
theorem pack_parse {dig : List Int} {f : Fil} {B : List Int} (hb : isB B) (h : parseR B = .ok (dig, f)) : pakR dig f = .ok B ∧ dig.length = 32 := by
  unfold parseR at h
  split at h
  · cases h
  · rename_i c1
    split at h
    · cases h
    · rename_i c2
      split at h
      · cases h
      · rename_i c3
        split at h
        · cases h
        · rename_i c4
          split at h
          · cases h
          · rename_i g r hw
            split at h
            · rename_i hk
              cases h
              obtain ⟨N, hN⟩ : ∃ N, B.length = N + 32 := ⟨B.length - 32, by omega⟩
              have eN : B.length - 32 = N := by omega
              rw [eN] at hw c4
              have c3 : B.take 4 = [69, 88, 67, 49] := Classical.byContradiction c3
              have c4 : shaF (B.take N) = B.drop N := Classical.byContradiction c4
              have hp := wholeF_back (fun x hx => hb x (List.mem_of_mem_take (List.mem_of_mem_drop hx))) hw
              have hd : ((B.drop 4).take 32).length = 32 := by rw [List.length_take, List.length_drop]; omega
              have hbody : bodyB ((B.drop 4).take 32) f = B.take N := by
                have e1 : B.take N = (B.take N).take 36 ++ (B.take N).drop 36 := (List.take_append_drop _ _).symm
                have e2 : (B.take N).take 36 = B.take 36 := by rw [List.take_take, Nat.min_eq_left (by omega)]
                have e3 : B.take 36 = B.take 4 ++ (B.drop 4).take 32 := by rw [show 36 = 4 + 32 from rfl, List.take_add]
                rw [e1, e2, e3, c3, hp, bodyB]
              have hfile : fileB ((B.drop 4).take 32) f = B := by
                rw [fileB, hbody, c4, List.take_append_drop]
              refine ⟨?_, hd⟩
              rw [pakR, if_pos hk, hfile, if_pos (by omega)]
            · cases h

/-! ### Bytes that the document fixes -/

def liveF : Fil := .mk [⟨1, true, 250, 0, 0, 0, 2, false, [], 0⟩] [] []
def zer32 : List Int := List.replicate 32 0
theorem live_ok : okRet liveF = true := by decide
theorem live_rng : rngF liveF := by
  simp [liveF, rngF, rngV, rngK]
theorem live_bytes : packF liveF = [1, 1, 34, 1, 250, 0, 0] := by decide
theorem live_len : (fileB zer32 liveF).length = 75 := by
  rw [fileB, List.length_append, shaF_len, bodyB, live_bytes]; simp [zer32]
theorem live_pack : pakR zer32 liveF = .ok (fileB zer32 liveF) := by
  rw [pakR, if_pos live_ok, if_pos (by rw [live_len]; decide)]
theorem live_mid : ((fileB zer32 liveF).take 43).drop 36 = [1, 1, 34, 1, 250, 0, 0] := by
  have : fileB zer32 liveF = ([69, 88, 67, 49] ++ zer32) ++ (packF liveF ++ shaF (bodyB zer32 liveF)) := by simp [fileB, bodyB]
  have h36 : ([69, 88, 67, 49] ++ zer32 : List Int).length = 36 := by simp [zer32]
  rw [this, List.drop_take, List.drop_left' h36, live_bytes]
  rfl

end Go.Vx

/- Whether returns are the same. -/
namespace Go.Vx
set_option linter.unusedVariables false
set_option linter.unusedSimpArgs false
open Go Go.Proofs
set_option linter.unusedSimpArgs false
set_option linter.unusedVariables false
set_option maxRecDepth 10000
set_option maxHeartbeats 4000000

mutual
def sameF : Fil → Fil → Bool
  | .mk v l k, .mk v' l' k' => decide (v = v') && (decide (l = l') && sameK k k')
def sameK : List (List Fil) → List (List Fil) → Bool
  | [], [] => true
  | r :: k, r' :: k' => sameR r r' && sameK k k'
  | [], _ :: _ => false
  | _ :: _, [] => false
def sameR : List Fil → List Fil → Bool
  | [], [] => true
  | f :: r, f' :: r' => sameF f f' && sameR r r'
  | [], _ :: _ => false
  | _ :: _, [] => false
end
theorem sameR_len : ∀ {r r' : List Fil}, sameR r r' = true → r.length = r'.length
  | [], [], _ => rfl
  | _ :: r, _ :: r', h => by
    simp only [sameR, Bool.and_eq_true] at h
    simp [sameR_len h.2]
  | [], _ :: _, h => by simp [sameR] at h
  | _ :: _, [], h => by simp [sameR] at h
theorem sameK_len : ∀ {r r' : List (List Fil)}, sameK r r' = true → r.length = r'.length
  | [], [], _ => rfl
  | _ :: r, _ :: r', h => by
    simp only [sameK, Bool.and_eq_true] at h
    simp [sameK_len h.2]
  | [], _ :: _, h => by simp [sameK] at h
  | _ :: _, [], h => by simp [sameK] at h
theorem sameR_ne {r r' : List Fil} (h : r.length ≠ r'.length) : sameR r r' = false := by
  cases hs : sameR r r' with
  | false => rfl
  | true => exact absurd (sameR_len hs) h
theorem sameK_ne {r r' : List (List Fil)} (h : r.length ≠ r'.length) : sameK r r' = false := by
  cases hs : sameK r r' with
  | false => rfl
  | true => exact absurd (sameK_len hs) h
theorem sameF_refl : ∀ f, sameF f f = true := by
  refine Fil.ind (fun v l k ih => ?_)
  have hR : ∀ r : List Fil, (∀ f, f ∈ r → sameF f f = true) → sameR r r = true := by
    intro r
    induction r with
    | nil => intro _; rfl
    | cons f r ih => intro h; simp [sameR, h f (.head _), ih (fun g hg => h g (.tail _ hg))]
  have hK : ∀ k : List (List Fil), (∀ r, r ∈ k → ∀ f, f ∈ r → sameF f f = true) → sameK k k = true := by
    intro k
    induction k with
    | nil => intro _; rfl
    | cons r k ih => intro h; simp [sameK, hR r (h r (.head _)), ih (fun g hg => h g (.tail _ hg))]
  simp [sameF, hK k ih]

/-- excise/exciseref25.sameValues -/
def c38 : AC :=
  .seq (.reg [⟨(some 4), none, .op (.mv (.c (.d (.bool false))) true)⟩]) <|
  .seq (.seq (.reg [⟨(some 6), none, .op (.mv (.t 0) false)⟩,
    ⟨(some 7), none, .op (.len (.t 6))⟩,
    ⟨(some 8), none, .op (.mv (.t 1) false)⟩,
    ⟨(some 9), none, .op (.len (.t 8))⟩,
    ⟨(some 10), none, .op (.bin .neq (.t 7) (.t 9))⟩]) <|
  .cond (.t 10) (.seq (.reg [⟨(some 4), none, .op (.mv (.c (.d (.bool false))) true)⟩]) <|
    .ret) (.skip)) <|
  .seq (.seq (.reg [⟨(some 5), none, .op (.mv (.c (.d (.int .i64 0))) true)⟩]) <|
  .block 0 (
    .loop (
      .seq (.seq (.reg [⟨(some 11), none, .op (.mv (.t 5) false)⟩,
        ⟨(some 12), none, .op (.mv (.t 0) false)⟩,
        ⟨(some 13), none, .op (.len (.t 12))⟩,
        ⟨(some 14), none, .op (.bin .lss (.t 11) (.t 13))⟩]) <|
      .cond (.t 14) (.skip) (.exit 0)) <|
      .seq (.block 1 (
        .seq (.draw [⟨0, ⟨(some 17), none, .op (.mv (.t 0) false)⟩, []⟩,
          ⟨1, ⟨(some 18), none, .op (.mv (.t 5) false)⟩, []⟩,
          ⟨2, ⟨(some 19), none, .op (.ixs 10 (.t 17) (.t 18))⟩, [0, 1]⟩,
          ⟨3, ⟨(some 20), none, .op (.load true 10 (.t 19) false)⟩, [2, 0, 1]⟩,
          ⟨4, ⟨(some 21), none, .op (.mv (.t 1) false)⟩, []⟩,
          ⟨5, ⟨(some 22), none, .op (.mv (.t 5) false)⟩, []⟩,
          ⟨6, ⟨(some 23), none, .op (.ixs 10 (.t 21) (.t 22))⟩, [4, 5]⟩,
          ⟨7, ⟨(some 24), none, .op (.load true 10 (.t 23) false)⟩, [6, 4, 5]⟩,
          ⟨8, ⟨(some 25), none, .op (.eqs true [1, 0, 1, 1, 1, 1, 1, 0, 2, 1] (.t 20) (.t 24))⟩, [3, 2, 0, 1, 7, 6, 4, 5]⟩]) <|
        .cond (.t 25) (.seq (.reg [⟨(some 4), none, .op (.mv (.c (.d (.bool false))) true)⟩]) <|
          .ret) (.skip))) <|
      .reg [⟨(some 15), none, .op (.mv (.t 5) false)⟩,
        ⟨(some 16), none, .op (.bin .add (.t 15) (.c (.d (.int .i64 1))))⟩,
        ⟨(some 5), none, .op (.mv (.t 16) true)⟩]))) <|
  .seq (.reg [⟨(some 4), none, .op (.mv (.c (.d (.bool true))) true)⟩]) <|
  .ret
theorem k38 : Tryd.f38.body.bind (comp Tryd.prog [] Tryd.f38.ntmps) = some c38 := by kernel_rfl
theorem r38 : cRes Tryd.prog Tryd.f38.results.toList = some [.t 4] := by kernel_rfl

theorem cs_sameVals {vs ws : List Val} {R : Out → Prop} (h : R (.ret [.d (.bool (decide (vs = ws)))] [] [])) :
    CS Tryd.prog 38 [.d (.sl 10 (vs.map encV)), .d (.sl 10 (ws.map encV))] [] [] R := by
  refine CS.go Tryd.func38 k38 r38 (by kernel_rfl) ?_
  unfold c38
  simp (maxSteps := 10000000) -dsimp only [go_sem, simprocAttr]
  refine kImp_intro (fun hl => ?_)
  simp (maxSteps := 10000000) -dsimp only [go_sem, simprocAttr]
  refine kImp_intro (fun hl2 => ?_)
  simp (maxSteps := 10000000) -dsimp only [go_sem, simprocAttr]
  refine kIf_intro (fun h1 => ?_) (fun h1 => ?_)
  · simp (maxSteps := 10000000) -dsimp only [go_sem, simprocAttr]
    exact retB h (by simp at h1; simp; rintro rfl; exact h1 rfl)
  have hlen : vs.length = ws.length := by simp at h1; omega
  simp (maxSteps := 10000000) -dsimp only [go_sem, simprocAttr]
  refine kLoop_intro (loop_rule (ι := { i : Nat // i ≤ vs.length ∧ vs.take i = ws.take i }) (fun i => ⟨Tryd.f38.ntmps, 1000, [(5, .d (.int .i64 i.1)), (1, .d (.sl 10 (ws.map encV))), (0, .d (.sl 10 (vs.map encV)))], [], []⟩) (fun i => vs.length - i.1) ⟨0, by omega, rfl⟩ ?_ (fun _ => ⟨rfl, rfl⟩) ?_)
  · refine weak_mk ?_ ?_ ?_ ?_ ?_ <;> simp (maxSteps := 10000000) -dsimp only [go_sem, simprocAttr]
  rintro ⟨i, hi, heq⟩
  simp (maxSteps := 10000000) -dsimp only [go_sem, simprocAttr]
  refine kImp_intro (fun _ => ?_)
  simp (maxSteps := 10000000) -dsimp only [go_sem, simprocAttr]
  refine kIf_intro (fun h2 => ?_) (fun h2 => ?_)
  · have hlt : i < vs.length := by simp at h2; omega
    obtain ⟨v, hv⟩ : ∃ v, vs[i]? = some v := ⟨_, List.getElem?_eq_getElem hlt⟩
    obtain ⟨w, hw⟩ : ∃ w, ws[i]? = some w := ⟨_, List.getElem?_eq_getElem (by omega : i < ws.length)⟩
    simp (maxSteps := 10000000) -dsimp only [go_sem, simprocAttr]
    refine kAnd_intro (by omega) ?_
    simp (maxSteps := 10000000) -dsimp only [go_sem, simprocAttr, getD_enc hv, encV]
    refine kAnd_intro (by omega) ?_
    simp (maxSteps := 10000000) -dsimp only [go_sem, simprocAttr, getD_enc hv, getD_enc hw, encV]
    have hvw : (v.kind == w.kind && (v.neg == w.neg && (v.n0 == w.n0 && (v.n1 == w.n1 && (v.n2 == w.n2 && (v.n3 == w.n3 && (v.scale == w.scale && (v.flag == w.flag && (v.text == w.text && v.err == w.err))))))))) = decide (v = w) := by
      cases v; cases w
      rw [Bool.eq_iff_iff]
      simp
    simp only [hvw]
    refine kIf_intro (fun h3 => ?_) (fun h3 => ?_)
    · simp (maxSteps := 10000000) -dsimp only [go_sem, simprocAttr]
      exact retB h (by
        simp at h3 ⊢
        rintro rfl
        rw [hv] at hw; cases hw; exact h3 rfl)
    · have : v = w := by simpa using h3
      subst this
      simp (maxSteps := 10000000) -dsimp only [go_sem, simprocAttr]
      refine ⟨⟨i + 1, hlt, by rw [List.take_add_one, List.take_add_one, heq, hv, hw]⟩, by show _ - (i + 1) < _ - i; omega, ?_⟩
      refine weak_mk ?_ ?_ ?_ ?_ ?_ <;> simp (maxSteps := 10000000) -dsimp only [go_sem, simprocAttr]
      rw [wrap_i64 (by omega) (by omega)]
      rfl
  · have : i = vs.length := by simp at h2; omega
    subst this
    simp (maxSteps := 10000000) -dsimp only [go_sem, simprocAttr]
    exact retB h (by rw [List.take_length, hlen, List.take_length] at heq; simp [heq])

/-- What the function does at two rows. -/
def SameCs (f : Fil) : Prop := ∀ (g : Fil) (R : Out → Prop), R (.ret [.d (.bool (sameF f g))] [] []) →
  CS Tryd.prog 24 [.agg ((encF f).map .d), .agg ((encF g).map .d)] [] [] R

/-- excise/exciseref25.sameRow -/
def c24 : AC :=
  .seq (.reg [⟨(some 2), none, .op (.box 3 (.t 0))⟩,
    ⟨(some 3), none, .op (.box 3 (.t 1))⟩,
    ⟨(some 4), none, .op (.mv (.c (.d (.bool false))) true)⟩]) <|
  .seq (.seq (.reg [⟨(some 7), none, .op (.fa 0 (.t 2))⟩,
    ⟨(some 8), none, .op (.load false 1 (.t 7) false)⟩,
    ⟨(some 9), none, .op (.fa 0 (.t 3))⟩,
    ⟨(some 10), none, .op (.load false 1 (.t 9) false)⟩,
    ⟨(some 11), none, .call 38 [(.t 8), (.t 10)] none⟩,
    ⟨(some 12), none, .op (.un .not (.t 11))⟩,
    ⟨(some 13), none, .op (.mv (.t 12) false)⟩,
    ⟨(some 14), (some (13, false)), .op (.fa 1 (.t 2))⟩,
    ⟨(some 15), (some (13, false)), .op (.load false 1 (.t 14) false)⟩,
    ⟨(some 16), (some (13, false)), .op (.fa 1 (.t 3))⟩,
    ⟨(some 17), (some (13, false)), .op (.load false 1 (.t 16) false)⟩,
    ⟨(some 18), (some (13, false)), .call 38 [(.t 15), (.t 17)] none⟩,
    ⟨(some 19), (some (13, false)), .op (.un .not (.t 18))⟩,
    ⟨(some 20), none, .op (.pick (.t 13) (.c (.d (.bool true))) (.t 19))⟩,
    ⟨(some 21), none, .op (.mv (.t 20) false)⟩,
    ⟨(some 22), (some (21, false)), .op (.fa 2 (.t 2))⟩,
    ⟨(some 23), (some (21, false)), .op (.load false 1 (.t 22) false)⟩,
    ⟨(some 24), (some (21, false)), .op (.len (.t 23))⟩,
    ⟨(some 25), (some (21, false)), .op (.fa 2 (.t 3))⟩,
    ⟨(some 26), (some (21, false)), .op (.load false 1 (.t 25) false)⟩,
    ⟨(some 27), (some (21, false)), .op (.len (.t 26))⟩,
    ⟨(some 28), (some (21, false)), .op (.bin .neq (.t 24) (.t 27))⟩,
    ⟨(some 29), none, .op (.pick (.t 21) (.c (.d (.bool true))) (.t 28))⟩]) <|
  .cond (.t 29) (.seq (.reg [⟨(some 4), none, .op (.mv (.c (.d (.bool false))) true)⟩]) <|
    .ret) (.skip)) <|
  .seq (.seq (.reg [⟨(some 5), none, .op (.mv (.c (.d (.int .i64 0))) true)⟩]) <|
  .block 0 (
    .loop (
      .seq (.seq (.reg [⟨(some 30), none, .op (.mv (.t 5) false)⟩,
        ⟨(some 31), none, .op (.fa 2 (.t 2))⟩,
        ⟨(some 32), none, .op (.load false 1 (.t 31) false)⟩,
        ⟨(some 33), none, .op (.len (.t 32))⟩,
        ⟨(some 34), none, .op (.bin .lss (.t 30) (.t 33))⟩]) <|
      .cond (.t 34) (.skip) (.exit 0)) <|
      .seq (.block 1 (
        .seq (.seq (.draw [⟨0, ⟨(some 37), none, .op (.fa 2 (.t 2))⟩, []⟩,
          ⟨1, ⟨(some 38), none, .op (.load false 1 (.t 37) false)⟩, [0]⟩,
          ⟨2, ⟨(some 39), none, .op (.mv (.t 5) false)⟩, []⟩,
          ⟨3, ⟨(some 40), none, .op (.ixs 1 (.t 38) (.t 39))⟩, [1, 0, 2]⟩,
          ⟨4, ⟨(some 41), none, .op (.load false 1 (.t 40) false)⟩, [3, 1, 0, 2]⟩,
          ⟨5, ⟨(some 42), none, .op (.len (.t 41))⟩, [4, 3, 1, 0, 2]⟩,
          ⟨6, ⟨(some 43), none, .op (.fa 2 (.t 3))⟩, []⟩,
          ⟨7, ⟨(some 44), none, .op (.load false 1 (.t 43) false)⟩, [6]⟩,
          ⟨8, ⟨(some 45), none, .op (.mv (.t 5) false)⟩, []⟩,
          ⟨9, ⟨(some 46), none, .op (.ixs 1 (.t 44) (.t 45))⟩, [7, 6, 8]⟩,
          ⟨10, ⟨(some 47), none, .op (.load false 1 (.t 46) false)⟩, [9, 7, 6, 8]⟩,
          ⟨11, ⟨(some 48), none, .op (.len (.t 47))⟩, [10, 9, 7, 6, 8]⟩,
          ⟨12, ⟨(some 49), none, .op (.bin .neq (.t 42) (.t 48))⟩, [5, 4, 3, 1, 0, 2, 11, 10, 9, 7, 6, 8]⟩]) <|
        .cond (.t 49) (.seq (.reg [⟨(some 4), none, .op (.mv (.c (.d (.bool false))) true)⟩]) <|
          .ret) (.skip)) <|
        .seq (.reg [⟨(some 6), none, .op (.mv (.c (.d (.int .i64 0))) true)⟩]) <|
        .block 2 (
          .loop (
            .seq (.seq (.reg [⟨(some 50), none, .op (.mv (.t 6) false)⟩,
              ⟨(some 51), none, .op (.fa 2 (.t 2))⟩,
              ⟨(some 52), none, .op (.load false 1 (.t 51) false)⟩,
              ⟨(some 53), none, .op (.mv (.t 5) false)⟩,
              ⟨(some 54), none, .op (.ixs 1 (.t 52) (.t 53))⟩,
              ⟨(some 55), none, .op (.load false 1 (.t 54) false)⟩,
              ⟨(some 56), none, .op (.len (.t 55))⟩,
              ⟨(some 57), none, .op (.bin .lss (.t 50) (.t 56))⟩]) <|
            .cond (.t 57) (.skip) (.exit 2)) <|
            .seq (.block 3 (
              .seq (.draw [⟨0, ⟨(some 60), none, .op (.fa 2 (.t 2))⟩, []⟩,
                ⟨1, ⟨(some 61), none, .op (.load false 1 (.t 60) false)⟩, [0]⟩,
                ⟨2, ⟨(some 62), none, .op (.mv (.t 5) false)⟩, []⟩,
                ⟨3, ⟨(some 63), none, .op (.ixs 1 (.t 61) (.t 62))⟩, [1, 0, 2]⟩,
                ⟨4, ⟨(some 64), none, .op (.load false 1 (.t 63) false)⟩, [3, 1, 0, 2]⟩,
                ⟨5, ⟨(some 65), none, .op (.mv (.t 6) false)⟩, []⟩,
                ⟨6, ⟨(some 66), none, .op (.ixs 3 (.t 64) (.t 65))⟩, [4, 3, 1, 0, 2, 5]⟩,
                ⟨7, ⟨(some 67), none, .op (.load true 3 (.t 66) false)⟩, [6, 4, 3, 1, 0, 2, 5]⟩,
                ⟨8, ⟨(some 68), none, .op (.fa 2 (.t 3))⟩, []⟩,
                ⟨9, ⟨(some 69), none, .op (.load false 1 (.t 68) false)⟩, [8]⟩,
                ⟨10, ⟨(some 70), none, .op (.mv (.t 5) false)⟩, []⟩,
                ⟨11, ⟨(some 71), none, .op (.ixs 1 (.t 69) (.t 70))⟩, [9, 8, 10]⟩,
                ⟨12, ⟨(some 72), none, .op (.load false 1 (.t 71) false)⟩, [11, 9, 8, 10]⟩,
                ⟨13, ⟨(some 73), none, .op (.mv (.t 6) false)⟩, []⟩,
                ⟨14, ⟨(some 74), none, .op (.ixs 3 (.t 72) (.t 73))⟩, [12, 11, 9, 8, 10, 13]⟩,
                ⟨15, ⟨(some 75), none, .op (.load true 3 (.t 74) false)⟩, [14, 12, 11, 9, 8, 10, 13]⟩,
                ⟨16, ⟨(some 76), none, .call 24 [(.t 67), (.t 75)] none⟩, [7, 6, 4, 3, 1, 0, 2, 5, 15, 14, 12, 11, 9, 8, 10, 13]⟩,
                ⟨17, ⟨(some 77), none, .op (.un .not (.t 76))⟩, [16, 7, 6, 4, 3, 1, 0, 2, 5, 15, 14, 12, 11, 9, 8, 10, 13]⟩]) <|
              .cond (.t 77) (.seq (.reg [⟨(some 4), none, .op (.mv (.c (.d (.bool false))) true)⟩]) <|
                .ret) (.skip))) <|
            .reg [⟨(some 58), none, .op (.mv (.t 6) false)⟩,
              ⟨(some 59), none, .op (.bin .add (.t 58) (.c (.d (.int .i64 1))))⟩,
              ⟨(some 6), none, .op (.mv (.t 59) true)⟩])))) <|
      .reg [⟨(some 35), none, .op (.mv (.t 5) false)⟩,
        ⟨(some 36), none, .op (.bin .add (.t 35) (.c (.d (.int .i64 1))))⟩,
        ⟨(some 5), none, .op (.mv (.t 36) true)⟩]))) <|
  .seq (.reg [⟨(some 4), none, .op (.mv (.c (.d (.bool true))) true)⟩]) <|
  .ret
theorem k24 : Tryd.f24.body.bind (comp Tryd.prog [] Tryd.f24.ntmps) = some c24 := by kernel_rfl
theorem r24 : cRes Tryd.prog Tryd.f24.results.toList = some [.t 4] := by kernel_rfl

theorem cs_sameRow : ∀ f : Fil, SameCs f := by
  refine Fil.ind (fun v l k ih => ?_)
  rintro ⟨v', l', k'⟩ R h
  refine CS.go Tryd.func24 k24 r24 (by kernel_rfl) ?_
  unfold c24
  simp (maxSteps := 10000000) -dsimp only [go_sem, simprocAttr, encF]
  refine kCS_intro (cs_sameVals ?_)
  cases h1 : decide (v = v') with
  | false =>
    simp (maxSteps := 10000000) -dsimp only [go_sem, simprocAttr]
    exact retB h (by simp [sameF, h1])
  | true =>
  simp (maxSteps := 10000000) -dsimp only [go_sem, simprocAttr]
  refine kCS_intro (cs_sameVals ?_)
  cases h2 : decide (l = l') with
  | false =>
    simp (maxSteps := 10000000) -dsimp only [go_sem, simprocAttr]
    exact retB h (by simp [sameF, h1, h2])
  | true =>
  have hF : sameF (.mk v l k) (.mk v' l' k') = sameK k k' := by simp [sameF, h1, h2]
  rw [hF] at h
  simp (maxSteps := 10000000) -dsimp only [go_sem, simprocAttr]
  refine kImp_intro (fun hl => ?_)
  simp (maxSteps := 10000000) -dsimp only [go_sem, simprocAttr]
  refine kImp_intro (fun hl' => ?_)
  simp (maxSteps := 10000000) -dsimp only [go_sem, simprocAttr]
  refine kIf_intro (fun h3 => ?_) (fun h3 => ?_)
  · simp (maxSteps := 10000000) -dsimp only [go_sem, simprocAttr]
    exact retB h (sameK_ne (by simp at h3; omega))
  have hlen : k.length = k'.length := by simp at h3; omega
  simp (maxSteps := 10000000) -dsimp only [go_sem, simprocAttr]
  refine kLoop_intro (loop_rule (ι := { i : Nat // i ≤ k.length ∧ sameK (k.drop i) (k'.drop i) = sameK k k' })
    (fun i => ⟨Tryd.f24.ntmps, 1000, [(5, .d (.int .i64 i.1)), (3, .ptr 1003 0), (2, .ptr 1002 0)],
      [(1003, [.d (.sl 10 (v'.map encV)), .d (.sl 10 (l'.map encV)), .d (.sl 1 (encK k'))]), (1002, [.d (.sl 10 (v.map encV)), .d (.sl 10 (l.map encV)), .d (.sl 1 (encK k))])], []⟩) (fun i => k.length - i.1) ⟨0, by omega, rfl⟩ ?_ (fun _ => ⟨rfl, rfl⟩) ?_)
  · refine weak_mk ?_ ?_ ?_ ?_ ?_ <;> simp (maxSteps := 10000000) -dsimp only [go_sem, simprocAttr, encF]
  rintro ⟨i, hi, hinv⟩
  simp (maxSteps := 10000000) -dsimp only [go_sem, simprocAttr]
  refine kImp_intro (fun _ => ?_)
  simp (maxSteps := 10000000) -dsimp only [go_sem, simprocAttr]
  refine kIf_intro (fun h4 => ?_) (fun h4 => ?_)
  · have hlt : i < k.length := by simp at h4; omega
    obtain ⟨r, hr⟩ : ∃ r, k[i]? = some r := ⟨_, List.getElem?_eq_getElem hlt⟩
    obtain ⟨r', hr'⟩ : ∃ r', k'[i]? = some r' := ⟨_, List.getElem?_eq_getElem (by omega : i < k'.length)⟩
    have hmem := List.mem_of_getElem? hr
    rw [drop_cons hr, drop_cons hr', sameK] at hinv
    simp (maxSteps := 10000000) -dsimp only [go_sem, simprocAttr]
    refine kAnd_intro (by omega) ?_
    simp (maxSteps := 10000000) -dsimp only [go_sem, simprocAttr, getD_encK hr, getD_encK hr']
    refine kAnd_intro (by omega) ?_
    simp (maxSteps := 10000000) -dsimp only [go_sem, simprocAttr, getD_encK hr, getD_encK hr']
    refine kIf_intro (fun h5 => ?_) (fun h5 => ?_)
    · simp (maxSteps := 10000000) -dsimp only [go_sem, simprocAttr]
      exact retB h (by
        rw [← hinv, sameR_ne, Bool.false_and]
        simp only [len_encR, bne_iff_ne, ne_eq] at h5
        intro e; rw [e] at h5; exact h5 rfl)
    have hlen2 : r.length = r'.length := by simp only [len_encR, bne_eq_false_iff_eq] at h5; omega
    simp (maxSteps := 10000000) -dsimp only [go_sem, simprocAttr]
    refine kLoop_intro (loop_rule (ι := { j : Nat // j ≤ r.length ∧ (sameR (r.drop j) (r'.drop j) && sameK (k.drop (i + 1)) (k'.drop (i + 1))) = sameK k k' })
      (fun j => ⟨Tryd.f24.ntmps, 1000, [(6, .d (.int .i64 j.1)), (5, .d (.int .i64 i)), (3, .ptr 1003 0), (2, .ptr 1002 0)],
        [(1003, [.d (.sl 10 (v'.map encV)), .d (.sl 10 (l'.map encV)), .d (.sl 1 (encK k'))]), (1002, [.d (.sl 10 (v.map encV)), .d (.sl 10 (l.map encV)), .d (.sl 1 (encK k))])], []⟩) (fun j => r.length - j.1) ⟨0, by omega, hinv⟩ ?_ (fun _ => ⟨rfl, rfl⟩) ?_)
    · refine weak_mk ?_ ?_ ?_ ?_ ?_ <;> simp (maxSteps := 10000000) -dsimp only [go_sem, simprocAttr]
    rintro ⟨j, hj, hinv2⟩
    simp (maxSteps := 10000000) -dsimp only [go_sem, simprocAttr]
    refine kAnd_intro (by omega) ?_
    simp (maxSteps := 10000000) -dsimp only [go_sem, simprocAttr, getD_encK hr, getD_encK hr']
    refine kImp_intro (fun _ => ?_)
    simp (maxSteps := 10000000) -dsimp only [go_sem, simprocAttr]
    refine kIf_intro (fun h6 => ?_) (fun h6 => ?_)
    · have hjt : j < r.length := by simp only [len_encR, decide_eq_true_eq] at h6; omega
      obtain ⟨f, hf⟩ : ∃ f, r[j]? = some f := ⟨_, List.getElem?_eq_getElem hjt⟩
      obtain ⟨f', hf'⟩ : ∃ f', r'[j]? = some f' := ⟨_, List.getElem?_eq_getElem (by omega : j < r'.length)⟩
      have hmf := List.mem_of_getElem? hf
      rw [drop_cons hf, drop_cons hf', sameR] at hinv2
      obtain ⟨fv, fl, fk⟩ := f
      obtain ⟨fv', fl', fk'⟩ := f'
      simp (maxSteps := 10000000) -dsimp only [go_sem, simprocAttr]
      refine kAnd_intro (by omega) ?_
      simp (maxSteps := 10000000) -dsimp only [go_sem, simprocAttr, getD_encK hr, getD_encK hr', getD_encR hf, getD_encR hf', encF]
      refine kAnd_intro (by omega) ?_
      simp (maxSteps := 10000000) -dsimp only [go_sem, simprocAttr, getD_encK hr, getD_encK hr', getD_encR hf, getD_encR hf', encF]
      refine kAnd_intro (by omega) ?_
      simp (maxSteps := 10000000) -dsimp only [go_sem, simprocAttr, getD_encK hr, getD_encK hr', getD_encR hf, getD_encR hf', encF]
      refine kAnd_intro (by omega) ?_
      simp (maxSteps := 10000000) -dsimp only [go_sem, simprocAttr, getD_encK hr, getD_encK hr', getD_encR hf, getD_encR hf', encF]
      refine kDC_intro (.d (.bool (sameF (.mk fv fl fk) (.mk fv' fl' fk')))) (ih r hmem _ hmf (.mk fv' fl' fk') (fun o => o = _) rfl) (fun _ => by simp (maxSteps := 10000000) -dsimp only [go_sem, simprocAttr]) (fun _ => by simp (maxSteps := 10000000) -dsimp only [go_sem, simprocAttr]) ⟨rfl, by simp (maxSteps := 10000000) -dsimp only [go_sem, simprocAttr]⟩ ?_
      cases hs : sameF (.mk fv fl fk) (.mk fv' fl' fk') with
      | false =>
        simp (maxSteps := 10000000) -dsimp only [go_sem, simprocAttr]
        exact retB h (by rw [← hinv2, hs]; rfl)
      | true =>
        simp (maxSteps := 10000000) -dsimp only [go_sem, simprocAttr]
        refine ⟨⟨j + 1, hjt, by rw [← hinv2, hs, Bool.true_and]⟩, by show _ - (j + 1) < _ - j; omega, ?_⟩
        refine weak_mk ?_ ?_ ?_ ?_ ?_ <;> simp (maxSteps := 10000000) -dsimp only [go_sem, simprocAttr]
        rw [wrap_i64 (by omega) (by omega)]
        rfl
    · have : j = r.length := by simp only [len_encR, decide_eq_false_iff_not] at h6; omega
      subst this
      rw [List.drop_length, hlen2, List.drop_length, sameR, Bool.true_and] at hinv2
      simp (maxSteps := 10000000) -dsimp only [go_sem, simprocAttr]
      refine ⟨⟨i + 1, hlt, hinv2⟩, by show _ - (i + 1) < _ - i; omega, ?_⟩
      refine weak_mk ?_ ?_ ?_ ?_ ?_ <;> simp (maxSteps := 10000000) -dsimp only [go_sem, simprocAttr]
      rw [wrap_i64 (by omega) (by omega)]
      rfl
  · have : i = k.length := by simp at h4; omega
    subst this
    rw [List.drop_length, hlen, List.drop_length, sameK] at hinv
    simp (maxSteps := 10000000) -dsimp only [go_sem, simprocAttr]
    exact retB h hinv.symm

/-- excise/exciseref25.Same -/
def c9 : AC :=
  .seq (.reg [⟨(some 2), none, .op (.box 35 (.t 0))⟩,
    ⟨(some 3), none, .op (.box 35 (.t 1))⟩,
    ⟨(some 4), none, .op (.mv (.c (.d (.bool false))) true)⟩]) <|
  .seq (.reg [⟨(some 5), none, .op (.fa 0 (.t 2))⟩,
    ⟨(some 6), none, .op (.load true 32 (.t 5) false)⟩,
    ⟨(some 7), none, .op (.fa 0 (.t 3))⟩,
    ⟨(some 8), none, .op (.load true 32 (.t 7) false)⟩,
    ⟨(some 9), none, .op (.eqs false ks32 (.t 6) (.t 8))⟩,
    ⟨(some 10), none, .op (.mv (.t 9) false)⟩,
    ⟨(some 11), (some (10, true)), .op (.fa 32 (.t 2))⟩,
    ⟨(some 12), (some (10, true)), .op (.load true 3 (.t 11) false)⟩,
    ⟨(some 13), (some (10, true)), .op (.fa 32 (.t 3))⟩,
    ⟨(some 14), (some (10, true)), .op (.load true 3 (.t 13) false)⟩,
    ⟨(some 15), (some (10, true)), .call 24 [(.t 12), (.t 14)] none⟩,
    ⟨(some 16), none, .op (.pick (.t 10) (.t 15) (.c (.d (.bool false))))⟩,
    ⟨(some 4), none, .op (.mv (.t 16) true)⟩]) <|
  .ret
theorem k9 : Tryd.f9.body.bind (comp Tryd.prog [] Tryd.f9.ntmps) = some c9 := by kernel_rfl
theorem r9 : cRes Tryd.prog Tryd.f9.results.toList = some [.t 4] := by kernel_rfl

theorem cs_same {dig dig' : List Int} (hd : dig.length = 32) (hd' : dig'.length = 32) {f g : Fil} {R : Out → Prop} (h : R (.ret [.d (.bool (decide (dig = dig') && sameF f g))] [] [])) :
    CS Tryd.prog 9 [.agg ((dig.map (D.int .u8) ++ encF f).map .d), .agg ((dig'.map (D.int .u8) ++ encF g).map .d)] [] [] R := by
  refine CS.go0 Tryd.func9 k9 r9 (by kernel_rfl) ?_
  unfold c9
  obtain ⟨v, l, k⟩ := f
  obtain ⟨v', l', k'⟩ := g
  have tk : ∀ (d : List Int) (e : List D), d.length = 32 → ((d.map (D.int .u8) ++ e).map A.d).take 32 = yc d := fun d e he => by
    rw [List.map_append, map_yc]; exact List.take_left' (by simp [he, yc])
  have dr : ∀ (d : List Int) (e : List D), d.length = 32 → ((d.map (D.int .u8) ++ e).map A.d).drop 32 = e.map A.d := fun d e he => by
    rw [List.map_append, map_yc]; exact List.drop_left' (by simp [he, yc])
  have a1 := tk dig (encF (.mk v l k)) hd
  have a2 := dr dig (encF (.mk v l k)) hd
  have a3 : ((dig.map (D.int .u8) ++ encF (.mk v l k)).map A.d).length = 35 := by simp [hd, encF]
  have b1 := tk dig' (encF (.mk v' l' k')) hd'
  have b2 := dr dig' (encF (.mk v' l' k')) hd'
  have b3 : ((dig'.map (D.int .u8) ++ encF (.mk v' l' k')).map A.d).length = 35 := by simp [hd', encF]
  generalize (dig.map (D.int .u8) ++ encF (.mk v l k)).map A.d = X at a1 a2 a3
  generalize (dig'.map (D.int .u8) ++ encF (.mk v' l' k')).map A.d = Y at b1 b2 b3
  simp (maxSteps := 10000000) -dsimp only [go_sem, simprocAttr, a1, a2, a3, b1, b2, b3, eq_ks hd hd', encF]
  refine kIf_intro (fun h1 => ?_) (fun h1 => ?_)
  · simp (maxSteps := 10000000) -dsimp only [go_sem, simprocAttr, a1, a2, a3, b1, b2, b3, encF]
    refine kCS_intro (cs_sameRow (.mk v l k) (.mk v' l' k') _ ?_)
    simp (maxSteps := 10000000) -dsimp only [go_sem, simprocAttr]
    exact retB h (by rw [h1, Bool.true_and])
  · simp (maxSteps := 10000000) -dsimp only [go_sem, simprocAttr]
    exact retB h (by rw [h1, Bool.false_and])

/-- bytes.Equal -/
def c10 : AC :=
  .seq (.reg [⟨(some 4), none, .op (.mv (.c (.d (.bool false))) true)⟩]) <|
  .seq (.reg [⟨(some 5), none, .op (.mv (.t 0) false)⟩,
    ⟨(some 6), none, .op (.cvs (.t 5))⟩,
    ⟨(some 7), none, .op (.mv (.t 1) false)⟩,
    ⟨(some 8), none, .op (.cvs (.t 7))⟩,
    ⟨(some 9), none, .op (.bin .eql (.t 6) (.t 8))⟩,
    ⟨(some 4), none, .op (.mv (.t 9) true)⟩]) <|
  .ret
theorem k10 : Tryd.f10.body.bind (comp Tryd.prog [] Tryd.f10.ntmps) = some c10 := by kernel_rfl
theorem r10 : cRes Tryd.prog Tryd.f10.results.toList = some [.t 4] := by kernel_rfl

theorem un_inj {a b : List Int} (ha : ∀ x, x ∈ a → 0 ≤ x ∧ x < 256) (hb : ∀ x, x ∈ b → 0 ≤ x ∧ x < 256) : ((a.map fun c => UInt8.ofNat c.toNat) == (b.map fun c => UInt8.ofNat c.toNat)) = decide (a = b) := by
  induction a generalizing b with
  | nil => cases b <;> simp
  | cons x a ih =>
    cases b with
    | nil => simp
    | cons y b =>
      have := ih (fun z hz => ha z (.tail _ hz)) (b := b) (fun z hz => hb z (.tail _ hz))
      have h1 := ha x (.head _)
      have h2 := hb y (.head _)
      have e : UInt8.ofNat x.toNat = UInt8.ofNat y.toNat ↔ x = y := by
        constructor
        · intro e
          have := congrArg UInt8.toNat e
          rw [UInt8.toNat_ofNat', UInt8.toNat_ofNat'] at this
          omega
        · rintro rfl; rfl
      rw [Bool.eq_iff_iff] at this ⊢
      simp only [beq_iff_eq, decide_eq_true_eq] at this
      simp only [List.map_cons, beq_iff_eq, List.cons.injEq, decide_eq_true_eq]
      exact and_congr e this

theorem cs_equal {a b : List Int} (ha : ∀ x, x ∈ a → 0 ≤ x ∧ x < 256) (hb : ∀ x, x ∈ b → 0 ≤ x ∧ x < 256) {R : Out → Prop} (h : R (.ret [.d (.bool (decide (a = b)))] [] [])) :
    CS Tryd.prog 10 [.d (.sl 1 (byt a)), .d (.sl 1 (byt b))] [] [] R := by
  refine CS.go0 Tryd.func10 k10 r10 (by kernel_rfl) ?_
  unfold c10
  simp (maxSteps := 10000000) -dsimp only [go_sem, simprocAttr]
  refine kImp_intro (fun _ => ?_)
  refine ⟨_, text_bytes ha, ?_⟩
  simp (maxSteps := 10000000) -dsimp only [go_sem, simprocAttr]
  refine kImp_intro (fun _ => ?_)
  refine ⟨_, text_bytes hb, ?_⟩
  simp (maxSteps := 10000000) -dsimp only [go_sem, simprocAttr]
  exact retB h (un_inj ha hb).symm

end Go.Vx

/- Bytes that the document fixes. -/
namespace Go.Vx
set_option linter.unusedVariables false
set_option linter.unusedSimpArgs false
open Go Go.Proofs
set_option linter.unusedSimpArgs false
set_option linter.unusedVariables false
set_option maxRecDepth 10000
set_option maxHeartbeats 4000000

theorem retN_set {a b c : A} : ((retN.set 32 a).set 33 b).set 34 c = yc zer32 ++ [a, b, c] := by
  have : retN = yc zer32 ++ [A.nil 10, .nil 10, .nil 1] := by unfold retN; rfl
  have hl : zer32.length = 32 := by simp [zer32]
  rw [this, List.set_append_right _ _ (by rw [yc_len]; omega), List.set_append_right _ _ (by rw [yc_len]; omega), List.set_append_right _ _ (by rw [yc_len]; omega), yc_len, hl]
  rfl

/-- excise/exciselaw25.live -/
def c5 : AC :=
  .seq (.reg [⟨(some 0), none, .op (.mv (.c (.d (.bool false))) true)⟩]) <|
  .seq (.reg [⟨(some 5), none, .op (.build [.d (.int .u64 0), .d (.int .u64 0), .d (.int .u64 0), .d (.int .u64 0)] [(0, 1, (.c (.d (.int .u64 250))))])⟩,
    ⟨(some 6), none, .op (.build [.d (.bool false), .d (.int .u64 0), .d (.int .u64 0), .d (.int .u64 0), .d (.int .u64 0), .d (.int .i64 0)] [(0, 1, (.c (.d (.bool true)))), (1, 4, (.t 5)), (5, 1, (.c (.d (.int .i64 2))))])⟩,
    ⟨(some 7), none, .op (.build [.d (.int .i64 0), .d (.bool false), .d (.int .u64 0), .d (.int .u64 0), .d (.int .u64 0), .d (.int .u64 0), .d (.int .i64 0), .d (.bool false), .d (.str []), .d (.int .i64 0)] [(0, 1, (.c (.d (.int .i64 1)))), (1, 6, (.t 6))])⟩,
    ⟨(some 8), none, .op (.bslc 10 1 [.int .i64 0, .bool false, .int .u64 0, .int .u64 0, .int .u64 0, .int .u64 0, .int .i64 0, .bool false, .str [], .int .i64 0] [(0, 10, (.t 7))])⟩,
    ⟨(some 9), none, .op (.build [.d (.sl 10 []), .d (.sl 10 []), .d (.sl 1 [])] [(0, 1, (.t 8))])⟩,
    ⟨(some 10), none, .op (.build retN [(32, 3, (.t 9))])⟩,
    ⟨(some 1), none, .op (.alloc retZ [(32, 10), (33, 10), (34, 1)])⟩,
    ⟨none, none, .op (.store 35 (.t 1) (.t 10))⟩]) <|
  .seq (.reg [⟨(some 12), none, .op (.load true 35 (.t 1) false)⟩,
    ⟨(some 13), none, .call 7 [(.t 12)] none⟩,
    ⟨(some 11), none, .op (.mv (.t 13) false)⟩,
    ⟨(some 14), none, .op (.ext (.t 11) 0)⟩,
    ⟨(some 15), none, .op (.ext (.t 11) 1)⟩,
    ⟨(some 2), none, .op (.mv (.t 14) true)⟩,
    ⟨(some 3), none, .op (.mv (.t 15) true)⟩]) <|
  .seq (.seq (.reg [⟨(some 16), none, .op (.mv (.t 3) false)⟩,
    ⟨(some 17), none, .op (.bin .neq (.t 16) (.c (.d (.int .i64 0))))⟩,
    ⟨(some 18), none, .op (.mv (.t 17) false)⟩,
    ⟨(some 19), (some (18, false)), .op (.mv (.t 2) false)⟩,
    ⟨(some 20), (some (18, false)), .op (.len (.t 19))⟩,
    ⟨(some 21), (some (18, false)), .op (.bin .neq (.t 20) (.c (.d (.int .i64 75))))⟩,
    ⟨(some 22), none, .op (.pick (.t 18) (.c (.d (.bool true))) (.t 21))⟩,
    ⟨(some 23), none, .op (.mv (.t 22) false)⟩,
    ⟨(some 24), (some (23, false)), .op (.mv (.t 2) true)⟩,
    ⟨(some 25), (some (23, false)), .op (.slc 1 (.t 24) (some (.c (.d (.int .i64 36)))) (some (.c (.d (.int .i64 43)))) false)⟩,
    ⟨(some 26), (some (23, false)), .op (.bslc 1 7 [.int .u8 0] [(0, 1, (.c (.d (.int .u8 1)))), (1, 1, (.c (.d (.int .u8 1)))), (2, 1, (.c (.d (.int .u8 34)))), (3, 1, (.c (.d (.int .u8 1)))), (4, 1, (.c (.d (.int .u8 250)))), (5, 1, (.c (.d (.int .u8 0)))), (6, 1, (.c (.d (.int .u8 0))))])⟩,
    ⟨(some 27), (some (23, false)), .call 10 [(.t 25), (.t 26)] none⟩,
    ⟨(some 28), (some (23, false)), .op (.un .not (.t 27))⟩,
    ⟨(some 29), none, .op (.pick (.t 23) (.c (.d (.bool true))) (.t 28))⟩]) <|
  .cond (.t 29) (.seq (.reg [⟨(some 0), none, .op (.mv (.c (.d (.bool false))) true)⟩]) <|
    .ret) (.skip)) <|
  .seq (.reg [⟨(some 31), none, .op (.mv (.t 2) false)⟩,
    ⟨(some 32), none, .call 8 [(.t 31)] none⟩,
    ⟨(some 30), none, .op (.mv (.t 32) false)⟩,
    ⟨(some 33), none, .op (.ext (.t 30) 0)⟩,
    ⟨(some 34), none, .op (.ext (.t 30) 1)⟩,
    ⟨(some 4), none, .op (.alloc retZ [(32, 10), (33, 10), (34, 1)])⟩,
    ⟨none, none, .op (.store 35 (.t 4) (.t 33))⟩,
    ⟨(some 3), none, .op (.mv (.t 34) true)⟩]) <|
  .seq (.reg [⟨(some 35), none, .op (.mv (.t 3) false)⟩,
    ⟨(some 36), none, .op (.bin .eql (.t 35) (.c (.d (.int .i64 0))))⟩,
    ⟨(some 37), none, .op (.mv (.t 36) false)⟩,
    ⟨(some 38), (some (37, true)), .op (.load true 35 (.t 4) false)⟩,
    ⟨(some 39), (some (37, true)), .op (.load true 35 (.t 1) false)⟩,
    ⟨(some 40), (some (37, true)), .call 9 [(.t 38), (.t 39)] none⟩,
    ⟨(some 41), none, .op (.pick (.t 37) (.t 40) (.c (.d (.bool false))))⟩,
    ⟨(some 0), none, .op (.mv (.t 41) true)⟩]) <|
  .ret
theorem k5 : Tryd.f5.body.bind (comp Tryd.prog [] Tryd.f5.ntmps) = some c5 := by kernel_rfl
theorem r5 : cRes Tryd.prog Tryd.f5.results.toList = some [.t 0] := by kernel_rfl

theorem cs_live {R : Out → Prop} (h : R (.ret [.d (.bool true)] [] [])) : CS Tryd.prog 5 [] [] [] R := by
  refine CS.go0 Tryd.func5 k5 r5 (by kernel_rfl) ?_
  unfold c5
  have hz : zer32.length = 32 := by simp [zer32]
  obtain ⟨Z, hZ⟩ : ∃ Z : List A, Z = (zer32.map (D.int .u8) ++ encF liveF).map A.d := ⟨_, rfl⟩
  have e1 : yc zer32 ++ [A.d (.sl 10 [[.int .i64 1, .bool true, .int .u64 250, .int .u64 0, .int .u64 0, .int .u64 0, .int .i64 2, .bool false, .str [], .int .i64 0]]), .d (.sl 10 []), .d (.sl 1 [])] = Z := by
    rw [hZ, List.map_append, map_yc]
    rfl
  have g1 : Z.length = 35 := by simp [hZ, hz, encF, liveF]
  have g2 : Z.all isCell = true := by rw [hZ]; simp [isCell]
  have g4 : Z.take 35 = Z := List.take_of_length_le (by omega)
  have g5 : ∀ ρ, renL ρ Z = some Z := fun ρ => by rw [hZ]; exact renL_ds
  have pk : ∀ R : Out → Prop, R (.ret [.d (.sl 1 (byt (fileB zer32 liveF))), .d (.int .i64 0)] [] []) → CS Tryd.prog 7 [.agg Z] [] [] R := fun R h => by
    rw [hZ]
    exact cs_pack hz (by simp only [pakO, live_pack]; exact h)
  have hF := parse_pack hz (fun x hx => by rw [zer32, List.mem_replicate] at hx; omega) live_rng live_pack
  have ps : ∀ R : Out → Prop, R (.ret [.agg Z, .d (.int .i64 0)] [] []) → CS Tryd.prog 8 [.d (.sl 1 (byt (fileB zer32 liveF)))] [] [] R := fun R h => by
    rw [hZ] at h
    exact cs_parse hF.2 (by simpa only [parseO, hF.1] using h)
  have sm : ∀ R : Out → Prop, R (.ret [.d (.bool true)] [] []) → CS Tryd.prog 9 [.agg Z, .agg Z] [] [] R := fun R h => by
    rw [hZ]
    exact cs_same hz hz (by simpa [sameF_refl] using h)
  have hl75 := live_len
  have hmid := live_mid
  have hbm : isB (((fileB zer32 liveF).take 43).drop 36) := fun x hx => hF.2 x (List.mem_of_mem_take (List.mem_of_mem_drop hx))
  have hB := hF.2
  clear hF
  generalize fileB zer32 liveF = B at pk ps hl75 hmid hbm hB
  simp (maxSteps := 10000000) -dsimp only [go_sem, simprocAttr, retN_set, lay_retZ g1, e1, g1, g2, g4, g5]
  refine kCS_intro (pk _ ?_)
  simp (maxSteps := 10000000) -dsimp only [go_sem, simprocAttr]
  refine kImp_intro (fun _ => ?_)
  simp (maxSteps := 10000000) -dsimp only [go_sem, simprocAttr, hl75]
  have eqc : ∀ R : Out → Prop, R (.ret [.d (.bool true)] [] []) → CS Tryd.prog 10 [.d (.sl 1 (byt ((B.take 43).drop 36))), .d (.sl 1 [[.int .u8 1], [.int .u8 1], [.int .u8 34], [.int .u8 1], [.int .u8 250], [.int .u8 0], [.int .u8 0]])] [] [] R := fun R h => by
    have := cs_equal (a := (B.take 43).drop 36) (b := [1, 1, 34, 1, 250, 0, 0]) hbm (by intro x hx; simp at hx; omega) (R := R) (by simpa [hmid] using h)
    exact this
  refine kCS_intro (eqc _ ?_)
  simp (maxSteps := 10000000) -dsimp only [go_sem, simprocAttr]
  refine kCS_intro (ps _ ?_)
  simp (maxSteps := 10000000) -dsimp only [go_sem, simprocAttr, lay_retZ g1, g1, g2, g4, g5]
  refine kCS_intro (sm _ ?_)
  simp (maxSteps := 10000000) -dsimp only [go_sem, simprocAttr]
  exact h

end Go.Vx

/- There and back: the statement's function. -/
namespace Go.Vx
set_option linter.unusedVariables false
set_option linter.unusedSimpArgs false
open Go Go.Proofs
set_option linter.unusedSimpArgs false
set_option linter.unusedVariables false
set_option maxRecDepth 10000
set_option maxHeartbeats 4000000

theorem parseR_err {B : List Int} {e : Int} (h : parseR B = .error e) : (e == 0) = false := by
  unfold parseR at h
  split at h
  · cases h; rfl
  · split at h
    · cases h; rfl
    · split at h
      · cases h; rfl
      · split at h
        · cases h; rfl
        · split at h
          · rename_i e' hw
            cases h
            have he : isErr e := by
              unfold wholeF at hw
              split at hw
              · cases hw
              · cases hw; exact .inr rfl
              · rename_i e' hr; cases hw; exact rowF_err hr
            rcases he with rfl | rfl <;> rfl
          · split at h
            · cases h
            · cases h; rfl
theorem pakR_err {d : List Int} {f : Fil} {e : Int} (h : pakR d f = .error e) : (e == 0) = false := by
  unfold pakR at h
  split at h
  · split at h
    · cases h
    · cases h; rfl
  · cases h; rfl

/-- excise/exciselaw25.EfileBack -/
def c3 : AC :=
  .seq (.reg [⟨(some 2), none, .op (.box 35 (.t 0))⟩,
    ⟨(some 4), none, .op (.mv (.c (.d (.bool false))) true)⟩]) <|
  .seq (.seq (.reg [⟨(some 13), none, .call 5 [] none⟩,
    ⟨(some 14), none, .op (.un .not (.t 13))⟩,
    ⟨(some 15), none, .op (.mv (.t 14) false)⟩,
    ⟨(some 16), (some (15, false)), .op (.fa 32 (.t 2))⟩,
    ⟨(some 17), (some (15, false)), .op (.load true 3 (.t 16) false)⟩,
    ⟨(some 18), (some (15, false)), .call 6 [(.t 17), (.c (.d (.int .i64 40)))] none⟩,
    ⟨(some 19), (some (15, false)), .op (.un .not (.t 18))⟩,
    ⟨(some 20), none, .op (.pick (.t 15) (.c (.d (.bool true))) (.t 19))⟩]) <|
  .cond (.t 20) (.seq (.reg [⟨(some 21), none, .call 5 [] none⟩,
      ⟨(some 4), none, .op (.mv (.t 21) true)⟩]) <|
    .ret) (.skip)) <|
  .seq (.seq (.reg [⟨(some 23), none, .op (.load true 35 (.t 2) false)⟩,
    ⟨(some 24), none, .call 7 [(.t 23)] none⟩,
    ⟨(some 22), none, .op (.mv (.t 24) false)⟩,
    ⟨(some 25), none, .op (.ext (.t 22) 0)⟩,
    ⟨(some 26), none, .op (.ext (.t 22) 1)⟩,
    ⟨(some 5), none, .op (.mv (.t 25) true)⟩,
    ⟨(some 6), none, .op (.mv (.t 26) true)⟩]) <|
  .seq (.reg [⟨(some 27), none, .op (.mv (.t 6) false)⟩,
    ⟨(some 28), none, .op (.bin .eql (.t 27) (.c (.d (.int .i64 0))))⟩]) <|
  .cond (.t 28) (.seq (.reg [⟨(some 30), none, .op (.mv (.t 5) false)⟩,
      ⟨(some 31), none, .call 8 [(.t 30)] none⟩,
      ⟨(some 29), none, .op (.mv (.t 31) false)⟩,
      ⟨(some 32), none, .op (.ext (.t 29) 0)⟩,
      ⟨(some 33), none, .op (.ext (.t 29) 1)⟩,
      ⟨(some 7), none, .op (.alloc retZ [(32, 10), (33, 10), (34, 1)])⟩,
      ⟨none, none, .op (.store 35 (.t 7) (.t 32))⟩,
      ⟨(some 8), none, .op (.mv (.t 33) true)⟩]) <|
    .seq (.reg [⟨(some 34), none, .op (.mv (.t 8) false)⟩,
      ⟨(some 35), none, .op (.bin .neq (.t 34) (.c (.d (.int .i64 0))))⟩,
      ⟨(some 36), none, .op (.mv (.t 35) false)⟩,
      ⟨(some 37), (some (36, false)), .op (.load true 35 (.t 7) false)⟩,
      ⟨(some 38), (some (36, false)), .op (.load true 35 (.t 2) false)⟩,
      ⟨(some 39), (some (36, false)), .call 9 [(.t 37), (.t 38)] none⟩,
      ⟨(some 40), (some (36, false)), .op (.un .not (.t 39))⟩,
      ⟨(some 41), none, .op (.pick (.t 36) (.c (.d (.bool true))) (.t 40))⟩]) <|
    .cond (.t 41) (.seq (.reg [⟨(some 4), none, .op (.mv (.c (.d (.bool false))) true)⟩]) <|
      .ret) (.skip)) (.skip)) <|
  .seq (.seq (.reg [⟨(some 43), none, .op (.mv (.t 1) false)⟩,
    ⟨(some 44), none, .call 8 [(.t 43)] none⟩,
    ⟨(some 42), none, .op (.mv (.t 44) false)⟩,
    ⟨(some 45), none, .op (.ext (.t 42) 0)⟩,
    ⟨(some 46), none, .op (.ext (.t 42) 1)⟩,
    ⟨(some 9), none, .op (.alloc retZ [(32, 10), (33, 10), (34, 1)])⟩,
    ⟨none, none, .op (.store 35 (.t 9) (.t 45))⟩,
    ⟨(some 10), none, .op (.mv (.t 46) true)⟩]) <|
  .seq (.reg [⟨(some 47), none, .op (.mv (.t 10) false)⟩,
    ⟨(some 48), none, .op (.bin .eql (.t 47) (.c (.d (.int .i64 0))))⟩]) <|
  .cond (.t 48) (.seq (.reg [⟨(some 50), none, .op (.load true 35 (.t 9) false)⟩,
      ⟨(some 51), none, .call 7 [(.t 50)] none⟩,
      ⟨(some 49), none, .op (.mv (.t 51) false)⟩,
      ⟨(some 52), none, .op (.ext (.t 49) 0)⟩,
      ⟨(some 53), none, .op (.ext (.t 49) 1)⟩,
      ⟨(some 11), none, .op (.mv (.t 52) true)⟩,
      ⟨(some 12), none, .op (.mv (.t 53) true)⟩]) <|
    .seq (.reg [⟨(some 54), none, .op (.mv (.t 12) false)⟩,
      ⟨(some 55), none, .op (.bin .neq (.t 54) (.c (.d (.int .i64 0))))⟩,
      ⟨(some 56), none, .op (.mv (.t 55) false)⟩,
      ⟨(some 57), (some (56, false)), .op (.mv (.t 1) false)⟩,
      ⟨(some 58), (some (56, false)), .op (.mv (.t 11) false)⟩,
      ⟨(some 59), (some (56, false)), .call 10 [(.t 57), (.t 58)] none⟩,
      ⟨(some 60), (some (56, false)), .op (.un .not (.t 59))⟩,
      ⟨(some 61), none, .op (.pick (.t 56) (.c (.d (.bool true))) (.t 60))⟩]) <|
    .cond (.t 61) (.seq (.reg [⟨(some 4), none, .op (.mv (.c (.d (.bool false))) true)⟩]) <|
      .ret) (.skip)) (.skip)) <|
  .seq (.reg [⟨(some 4), none, .op (.mv (.c (.d (.bool true))) true)⟩]) <|
  .ret
theorem k3 : Tryd.f3.body.bind (comp Tryd.prog [] Tryd.f3.ntmps) = some c3 := by kernel_rfl
theorem r3 : cRes Tryd.prog Tryd.f3.results.toList = some [.t 4] := by kernel_rfl

theorem cs_back {dig : List Int} (hd : dig.length = 32) (hdb : isB dig) {f : Fil} (hf : rngF f) {b : List Int} (hb : isB b) {R : Out → Prop} (h : R (.ret [.d (.bool true)] [] [])) :
    CS Tryd.prog 3 [.agg ((dig.map (D.int .u8) ++ encF f).map .d), .d (.sl 1 (byt b))] [] [] R := by
  refine CS.go0 Tryd.func3 k3 r3 (by kernel_rfl) ?_
  unfold c3
  have fits := fun (d : Int) R (h : ∀ b, R (.ret [.d (.bool b)] [] [])) => cs_fits f d R h
  have tk35 : ∀ Z : List A, Z.length = 35 → Z.take 35 = Z := fun Z h => List.take_of_length_le (by omega)
  have l35 : ∀ (dg : List Int) (g : Fil), dg.length = 32 → ((dg.map (D.int .u8) ++ encF g).map A.d).length = 35 := fun dg g h => by
    obtain ⟨v, l, k⟩ := g; simp [h, encF]
  have a35 : ∀ (l : List D), (l.map A.d).all isCell = true := fun l => by simp [isCell]
  have pk := fun R h => @cs_pack dig hd f R h
  have sm := fun R h => @cs_same dig dig hd hd f f R h
  have pp := fun B h => parse_pack (B := B) hd hdb hf h
  have hdr : ((dig.map (D.int .u8) ++ encF f).map A.d).drop 32 = (encF f).map .d := by
    rw [List.map_append]
    exact List.drop_left' (by simp [hd])
  have g1 := l35 dig f hd
  have g2 := a35 (dig.map (D.int .u8) ++ encF f)
  have g5 : ∀ ρ, renL ρ ((dig.map (D.int .u8) ++ encF f).map A.d) = some ((dig.map (D.int .u8) ++ encF f).map A.d) := fun ρ => renL_ds
  obtain ⟨v, l, k⟩ := f
  generalize hZ : (dig.map (D.int .u8) ++ encF (.mk v l k)).map A.d = Z at pk sm hdr g1 g2 g5
  have g4 := tk35 Z g1
  have lv := fun R (h : R (.ret [.d (.bool true)] [] [])) => @cs_live R h
  simp (maxSteps := 10000000) -dsimp only [go_sem, simprocAttr, g1, g2, g4, g5]
  refine kCS_intro (lv _ ?_)
  simp (maxSteps := 10000000) -dsimp only [go_sem, simprocAttr, g1, g2, g4, g5, hdr, encF]
  refine kCS_intro (fits _ _ (fun q => ?_))
  cases q with
  | false =>
    simp (maxSteps := 10000000) -dsimp only [go_sem, simprocAttr]
    refine kCS_intro (lv _ ?_)
    simp (maxSteps := 10000000) -dsimp only [go_sem, simprocAttr]
    exact h
  | true =>
  simp (maxSteps := 10000000) -dsimp only [go_sem, simprocAttr, g1, g2, g4, g5]
  refine kCS_intro (pk _ ?_)
  have ps := fun R h => @cs_parse b R hb h
  cases hp : pakR dig (.mk v l k) with
  | error e =>
    have he := pakR_err hp
    simp (maxSteps := 10000000) -dsimp only [go_sem, simprocAttr, pakO, hp, he]
    refine kCS_intro (ps _ ?_)
    cases hq : parseR b with
    | error e =>
      have he := parseR_err hq
      simp (maxSteps := 10000000) -dsimp only [go_sem, simprocAttr, parseO, hq, he, lay_retZ retN_len]
      exact h
    | ok w =>
      obtain ⟨dg, g⟩ := w
      obtain ⟨pk2, hdg⟩ := pack_parse hb hq
      have m1 := l35 dg g hdg
      have m2 := a35 (dg.map (D.int .u8) ++ encF g)
      have m5 : ∀ ρ, renL ρ ((dg.map (D.int .u8) ++ encF g).map A.d) = some ((dg.map (D.int .u8) ++ encF g).map A.d) := fun ρ => renL_ds
      have pk3 : ∀ R : Out → Prop, R (.ret [.d (.sl 1 (byt b)), .d (.int .i64 0)] [] []) → CS Tryd.prog 7 [.agg ((dg.map (D.int .u8) ++ encF g).map A.d)] [] [] R := fun R h => cs_pack hdg (by simp only [pakO, pk2]; exact h)
      simp only [parseO, hq]
      generalize (dg.map (D.int .u8) ++ encF g).map A.d = Y at m1 m2 m5 pk3
      have m4 := tk35 Y m1
      simp (maxSteps := 10000000) -dsimp only [go_sem, simprocAttr, m1, m2, m4, m5, lay_retZ m1]
      refine kCS_intro (pk3 _ ?_)
      simp (maxSteps := 10000000) -dsimp only [go_sem, simprocAttr]
      refine kCS_intro (cs_equal hb hb ?_)
      simp (maxSteps := 10000000) -dsimp only [go_sem, simprocAttr]
      exact h

  | ok B =>
    obtain ⟨pa, hB⟩ := pp B hp
    have ps2 : ∀ R : Out → Prop, R (parseO B) → CS Tryd.prog 8 [.d (.sl 1 (byt B))] [] [] R := fun R h => cs_parse hB h
    have ho : parseO B = .ret [.agg Z, .d (.int .i64 0)] [] [] := by simp only [parseO, pa, hZ]
    rw [ho] at ps2
    simp (maxSteps := 10000000) -dsimp only [go_sem, simprocAttr, pakO, hp]
    refine kCS_intro (ps2 _ ?_)
    simp (maxSteps := 10000000) -dsimp only [go_sem, simprocAttr, g1, g2, g4, g5, lay_retZ g1]
    refine kCS_intro (sm _ ?_)
    simp (maxSteps := 10000000) -dsimp only [go_sem, simprocAttr, sameF_refl, g1, g2, g4, g5]
    refine kCS_intro (ps _ ?_)
    cases hq : parseR b with
    | error e =>
      have he := parseR_err hq
      simp (maxSteps := 10000000) -dsimp only [go_sem, simprocAttr, parseO, hq, he, lay_retZ retN_len]
      exact h
    | ok w =>
      obtain ⟨dg, g⟩ := w
      obtain ⟨pk2, hdg⟩ := pack_parse hb hq
      have m1 := l35 dg g hdg
      have m2 := a35 (dg.map (D.int .u8) ++ encF g)
      have m5 : ∀ ρ, renL ρ ((dg.map (D.int .u8) ++ encF g).map A.d) = some ((dg.map (D.int .u8) ++ encF g).map A.d) := fun ρ => renL_ds
      have pk3 : ∀ R : Out → Prop, R (.ret [.d (.sl 1 (byt b)), .d (.int .i64 0)] [] []) → CS Tryd.prog 7 [.agg ((dg.map (D.int .u8) ++ encF g).map A.d)] [] [] R := fun R h => cs_pack hdg (by simp only [pakO, pk2]; exact h)
      simp only [parseO, hq]
      generalize (dg.map (D.int .u8) ++ encF g).map A.d = Y at m1 m2 m5 pk3
      have m4 := tk35 Y m1
      simp (maxSteps := 10000000) -dsimp only [go_sem, simprocAttr, m1, m2, m4, m5, lay_retZ m1]
      refine kCS_intro (pk3 _ ?_)
      simp (maxSteps := 10000000) -dsimp only [go_sem, simprocAttr]
      refine kCS_intro (cs_equal hb hb ?_)
      simp (maxSteps := 10000000) -dsimp only [go_sem, simprocAttr]
      exact h

end Go.Vx

/- The statement's arguments, as data. -/
namespace Go.Vx
set_option linter.unusedVariables false
set_option linter.unusedSimpArgs false
open Go Go.Proofs
set_option linter.unusedSimpArgs false
set_option linter.unusedVariables false
set_option maxRecDepth 10000
set_option maxHeartbeats 1000000

section
variable {P : Program} {n : Nat} {t e : TypeId} {ds : List D}
theorem wt_bool (h : WT P n t ds) (hu : P.underlying t = some .bool) : ∃ b, ds = [.bool b] := by
  cases n with
  | zero => exact h.elim
  | succ n => simpa only [WT, hu] using h
theorem wt_int {k : IntKind} (h : WT P n t ds) (hu : P.underlying t = some (.int k)) : ∃ i, ds = [.int k i] ∧ k.min ≤ i ∧ i ≤ k.max := by
  cases n with
  | zero => exact h.elim
  | succ n => simpa only [WT, hu] using h
theorem wt_str (h : WT P n t ds) (hu : P.underlying t = some .string) : ∃ s, ds = [.str s] := by
  cases n with
  | zero => exact h.elim
  | succ n => simpa only [WT, hu] using h
theorem wt_slice (h : WT P n t ds) (hu : P.underlying t = some (.slice e)) : ∃ m es, n = m + 1 ∧ ds = [.sl (P.cellsOf e) es] ∧ es.length * P.bytesOf e ≤ reachBytes ∧ ∀ d, d ∈ es → d.length = P.cellsOf e ∧ WT P m e d := by
  cases n with
  | zero => exact h.elim
  | succ n =>
    simp only [WT, hu] at h
    obtain ⟨es, h1, h3, h2⟩ := h
    exact ⟨n, es, rfl, h1, h3, h2⟩
theorem wt_struct {fs : Array Field} (h : WT P n t ds) (hu : P.underlying t = some (.struct fs)) : ∃ m, n = m + 1 ∧ WTs P.cellsOf (WT P m) fs.toList ds := by
  cases n with
  | zero => exact h.elim
  | succ n =>
    simp only [WT, hu] at h
    exact ⟨n, rfl, h⟩
theorem wt_array {q : Nat} (h : WT P n t ds) (hu : P.underlying t = some (.array q e)) : ∃ m, n = m + 1 ∧ WTa (P.cellsOf e) (WT P m e) q ds := by
  cases n with
  | zero => exact h.elim
  | succ n =>
    simp only [WT, hu] at h
    exact ⟨n, rfl, h⟩
/-- A list of what each element is. -/
theorem each_of {α : Type} {p : α → Prop} {f : α → List D} : ∀ {es : List (List D)}, (∀ d, d ∈ es → ∃ a, p a ∧ d = f a) → ∃ l : List α, (∀ a, a ∈ l → p a) ∧ es = l.map f
  | [], _ => ⟨[], fun a h => (by cases h), rfl⟩
  | d :: es, h => by
    obtain ⟨l, h1, h2⟩ := each_of (es := es) (fun d hd => h d (.tail _ hd))
    obtain ⟨a, ha, rfl⟩ := h d (.head _)
    exact ⟨a :: l, fun b hb => by rcases List.mem_cons.1 hb with rfl | hb; exact ha; exact h1 b hb, by rw [h2]; rfl⟩
end

theorem u64_rng {i : Int} (h : IntKind.u64.min ≤ i ∧ i ≤ IntKind.u64.max) : 0 ≤ i ∧ i < 18446744073709551616 := by
  have e1 : IntKind.u64.min = 0 := by decide
  have e2 : IntKind.u64.max = 18446744073709551615 := by decide
  rw [e1, e2] at h; omega
theorem u8_rng {i : Int} (h : IntKind.u8.min ≤ i ∧ i ≤ IntKind.u8.max) : 0 ≤ i ∧ i < 256 := by
  have e1 : IntKind.u8.min = 0 := by decide
  have e2 : IntKind.u8.max = 255 := by decide
  rw [e1, e2] at h; omega

theorem wt_bytes_arr : ∀ {m q : Nat} {ds : List D}, WTa 1 (WT Tryd.prog m 5) q ds → ∃ l : List Int, l.length = q ∧ isB l ∧ ds = l.map (D.int .u8)
  | m, 0, ds, h => ⟨[], rfl, fun x hx => (by cases hx), h⟩
  | m, q + 1, ds, h => by
    obtain ⟨d1, d2, rfl, _, h1, h2⟩ := h
    obtain ⟨l, e1, e2, rfl⟩ := wt_bytes_arr h2
    obtain ⟨i, rfl, hi⟩ := wt_int h1 Tryd.underlying5
    exact ⟨i :: l, by simp [e1], isB_cons.2 ⟨u8_rng hi, e2⟩, rfl⟩

theorem cells53 : Tryd.prog.cellsOf 53 = 10 := by kernel_rfl
theorem cells26 : Tryd.prog.cellsOf 26 = 3 := by kernel_rfl
theorem cells54 : Tryd.prog.cellsOf 54 = 1 := by kernel_rfl
theorem cells5 : Tryd.prog.cellsOf 5 = 1 := by kernel_rfl

theorem wt_val {n : Nat} {ds : List D} (h : WT Tryd.prog n 53 ds) : ∃ v : Val, rngV v ∧ ds = encV v := by
  obtain ⟨m, rfl, h⟩ := wt_struct h Tryd.underlying53
  obtain ⟨d1, r1, rfl, _, h1, h⟩ := h
  obtain ⟨d2, r2, rfl, _, h2, h⟩ := h
  obtain ⟨d3, r3, rfl, _, h3, h⟩ := h
  obtain ⟨d4, r4, rfl, _, h4, h⟩ := h
  obtain ⟨d5, r5, rfl, _, h5, h⟩ := h
  have h : r5 = [] := h
  subst h
  obtain ⟨kind, rfl, _⟩ := wt_int h1 Tryd.underlying3
  obtain ⟨flag, rfl⟩ := wt_bool h3 Tryd.underlying4
  obtain ⟨text, rfl⟩ := wt_str h4 Tryd.underlying9
  obtain ⟨err, rfl, _⟩ := wt_int h5 Tryd.underlying3
  obtain ⟨m2, rfl, h2⟩ := wt_struct h2 Tryd.underlying51
  obtain ⟨a1, s1, rfl, _, g1, h2⟩ := h2
  obtain ⟨a2, s2, rfl, _, g2, h2⟩ := h2
  obtain ⟨a3, s3, rfl, _, g3, h2⟩ := h2
  have h2 : s3 = [] := h2
  subst h2
  obtain ⟨neg, rfl⟩ := wt_bool g1 Tryd.underlying4
  obtain ⟨scale, rfl, _⟩ := wt_int g3 Tryd.underlying3
  obtain ⟨m3, rfl, g2⟩ := wt_array g2 Tryd.underlying49
  obtain ⟨b1, u1, rfl, _, k1, g2⟩ := g2
  obtain ⟨b2, u2, rfl, _, k2, g2⟩ := g2
  obtain ⟨b3, u3, rfl, _, k3, g2⟩ := g2
  obtain ⟨b4, u4, rfl, _, k4, g2⟩ := g2
  have g2 : u4 = [] := g2
  subst g2
  obtain ⟨n0, rfl, q0⟩ := wt_int k1 Tryd.underlying47
  obtain ⟨n1, rfl, q1⟩ := wt_int k2 Tryd.underlying47
  obtain ⟨n2, rfl, q2⟩ := wt_int k3 Tryd.underlying47
  obtain ⟨n3, rfl, q3⟩ := wt_int k4 Tryd.underlying47
  exact ⟨⟨kind, neg, n0, n1, n2, n3, scale, flag, text, err⟩, ⟨u64_rng q0, u64_rng q1, u64_rng q2, u64_rng q3⟩, rfl⟩

theorem bytes53 : Tryd.prog.bytesOf 53 = 88 := by kernel_rfl
theorem wt_vals {n : Nat} {ds : List D} (h : WT Tryd.prog n 23 ds) : ∃ vs : List Val, (∀ v, v ∈ vs → rngV v) ∧ vs.length * 88 ≤ reachBytes ∧ ds = [.sl 10 (vs.map encV)] := by
  obtain ⟨m, es, rfl, rfl, hsz, hw⟩ := wt_slice h Tryd.underlying23
  obtain ⟨vs, h1, rfl⟩ := each_of (p := rngV) (f := encV) (es := es) (fun d hd => wt_val (hw d hd).2)
  exact ⟨vs, h1, by rw [bytes53, List.length_map] at hsz; exact hsz, by rw [cells53]⟩

theorem rngR_all : ∀ {r : List Fil}, (∀ f, f ∈ r → rngF f) → rngR r
  | [], _ => by simp only [rngR]
  | f :: r, h => by simp only [rngR]; exact ⟨h f (.head _), rngR_all (fun g hg => h g (.tail _ hg))⟩
theorem rngK_all : ∀ {k : List (List Fil)}, (∀ r, r ∈ k → rngR r) → rngK k
  | [], _ => by simp only [rngK]
  | f :: r, h => by simp only [rngK]; exact ⟨h f (.head _), rngK_all (fun g hg => h g (.tail _ hg))⟩

/-- No list of values is longer than memory. -/
inductive SzF : Fil → Prop
  | mk (v l : List Val) (k : List (List Fil)) (h1 : v.length * 88 ≤ reachBytes) (h2 : ∀ r, r ∈ k → ∀ f, f ∈ r → SzF f) : SzF (.mk v l k)

theorem wt_fil : ∀ (n : Nat) {ds : List D}, WT Tryd.prog n 26 ds → ∃ f : Fil, (rngF f ∧ SzF f) ∧ ds = encF f := by
  intro n
  induction n using Nat.strongRecOn with
  | ind n ih =>
    intro ds h
    obtain ⟨m, rfl, h⟩ := wt_struct h Tryd.underlying26
    obtain ⟨d1, r1, rfl, _, h1, h⟩ := h
    obtain ⟨d2, r2, rfl, _, h2, h⟩ := h
    obtain ⟨d3, r3, rfl, _, h3, h⟩ := h
    have h : r3 = [] := h
    subst h
    obtain ⟨v, v1, v2, rfl⟩ := wt_vals h1
    obtain ⟨l, l1, _, rfl⟩ := wt_vals h2
    obtain ⟨m2, es, rfl, rfl, _, hw⟩ := wt_slice h3 Tryd.underlying24
    obtain ⟨k, k1, rfl⟩ := each_of (p := fun r : List Fil => ∀ f, f ∈ r → rngF f ∧ SzF f) (f := fun r => [.sl 3 (encR r)]) (es := es) (fun d hd => by
      obtain ⟨m3, rs, rfl, rfl, _, h4⟩ := wt_slice (hw d hd).2 Tryd.underlying54
      obtain ⟨r, r1, rfl⟩ := each_of (p := fun f => rngF f ∧ SzF f) (f := encF) (es := rs) (fun d hd => ih m3 (by omega) (h4 d hd).2)
      exact ⟨r, r1, by rw [cells26, encR_eq]⟩)
    refine ⟨.mk v l k, ?_, ?_⟩
    · exact ⟨by simp only [rngF]; exact ⟨v1, l1, rngK_all (fun r hr => rngR_all (fun f hf => (k1 r hr f hf).1))⟩, .mk _ _ _ v2 (fun r hr f hf => (k1 r hr f hf).2)⟩
    · rw [cells54, encF, encK_eq]; rfl

theorem wt_ret {n : Nat} {ds : List D} (h : WT Tryd.prog n 28 ds) : ∃ (dig : List Int) (f : Fil), dig.length = 32 ∧ isB dig ∧ (rngF f ∧ SzF f) ∧ ds = dig.map (D.int .u8) ++ encF f := by
  obtain ⟨m, rfl, h⟩ := wt_struct h Tryd.underlying28
  obtain ⟨d1, r1, rfl, _, h1, h⟩ := h
  obtain ⟨d2, r2, rfl, _, h2, h⟩ := h
  have h : r2 = [] := h
  subst h
  obtain ⟨m2, rfl, hw⟩ := wt_array h1 Tryd.underlying22
  rw [cells5] at hw
  obtain ⟨dig, e1, e2, rfl⟩ := wt_bytes_arr hw
  obtain ⟨f, f1, rfl⟩ := wt_fil _ h2
  exact ⟨dig, f, e1, e2, f1, by simp⟩

theorem wt_bytes {n : Nat} {ds : List D} (h : WT Tryd.prog n 29 ds) : ∃ b : List Int, isB b ∧ ds = [.sl 1 (byt b)] := by
  obtain ⟨m, es, rfl, rfl, _, hw⟩ := wt_slice h Tryd.underlying29
  obtain ⟨b, h1, rfl⟩ := each_of (p := fun i : Int => 0 ≤ i ∧ i < 256) (f := fun i => [D.int .u8 i]) (es := es) (fun d hd => by
    obtain ⟨i, rfl, hi⟩ := wt_int (hw d hd).2 Tryd.underlying5
    exact ⟨i, u8_rng hi, rfl⟩)
  exact ⟨b, h1, by rw [cells5]; rfl⟩

/-- The types that the arguments are made of. -/
def argTys : List TypeId := [28, 22, 5, 26, 23, 53, 3, 51, 4, 49, 47, 9, 24, 54, 29]
theorem argTys_ok : tyOk Tryd.prog argTys = true := by kernel_rfl

end Go.Vx

/- The document's own checks of values and returns. -/
namespace Go.Vx
set_option linter.unusedVariables false
set_option linter.unusedSimpArgs false
open Go Go.Proofs
set_option linter.unusedSimpArgs false
set_option linter.unusedVariables false
set_option maxRecDepth 10000
set_option maxHeartbeats 4000000

/-- excise/exciseref02.Check -/
def c73 : AC :=
  .seq (.reg [⟨(some 1), none, .op (.box 6 (.t 0))⟩,
    ⟨(some 2), none, .op (.mv (.c (.d (.int .i64 0))) true)⟩]) <|
  .seq (.seq (.reg [⟨(some 3), none, .op (.fa 5 (.t 1))⟩,
    ⟨(some 4), none, .op (.load false 1 (.t 3) false)⟩,
    ⟨(some 5), none, .op (.bin .lss (.t 4) (.c (.d (.int .i64 0))))⟩,
    ⟨(some 6), none, .op (.mv (.t 5) false)⟩,
    ⟨(some 7), (some (6, false)), .op (.fa 5 (.t 1))⟩,
    ⟨(some 8), (some (6, false)), .op (.load false 1 (.t 7) false)⟩,
    ⟨(some 9), (some (6, false)), .op (.bin .gtr (.t 8) (.c (.d (.int .i64 18))))⟩,
    ⟨(some 10), none, .op (.pick (.t 6) (.c (.d (.bool true))) (.t 9))⟩,
    ⟨(some 11), none, .op (.mv (.t 10) false)⟩,
    ⟨(some 12), (some (11, false)), .op (.fa 0 (.t 1))⟩,
    ⟨(some 13), (some (11, false)), .op (.load false 1 (.t 12) false)⟩,
    ⟨(some 14), (some (11, false)), .op (.mv (.t 13) false)⟩,
    ⟨(some 15), (some (14, true)), .op (.fa 1 (.t 1))⟩,
    ⟨(some 16), (some (14, true)), .op (.load true 4 (.t 15) false)⟩,
    ⟨(some 17), (some (14, true)), .op (.build [.d (.int .u64 0), .d (.int .u64 0), .d (.int .u64 0), .d (.int .u64 0)] [])⟩,
    ⟨(some 18), (some (14, true)), .op (.eqs false [1, 1, 1, 1] (.t 16) (.t 17))⟩,
    ⟨(some 19), (some (11, false)), .op (.pick (.t 14) (.t 18) (.c (.d (.bool false))))⟩,
    ⟨(some 20), none, .op (.pick (.t 11) (.c (.d (.bool true))) (.t 19))⟩]) <|
  .cond (.t 20) (.seq (.reg [⟨(some 2), none, .op (.mv (.c (.d (.int .i64 20))) true)⟩]) <|
    .ret) (.skip)) <|
  .seq (.reg [⟨(some 2), none, .op (.mv (.c (.d (.int .i64 0))) true)⟩]) <|
  .ret
theorem k73 : Tryd.f73.body.bind (comp Tryd.prog [] Tryd.f73.ntmps) = some c73 := by kernel_rfl
theorem r73 : cRes Tryd.prog Tryd.f73.results.toList = some [.t 2] := by kernel_rfl

theorem cs_decCheck' {neg n0 n1 n2 n3 sc} {R : Out → Prop} (h : R (.ret [.d (.int .i64 (if decBad neg n0 n1 n2 n3 sc = true then 20 else 0))] [] [])) :
    CS Tryd.prog 73 [.agg [.d (.bool neg), .d (.int .u64 n0), .d (.int .u64 n1), .d (.int .u64 n2), .d (.int .u64 n3), .d (.int .i64 sc)]] [] [] R := by
  refine CS.go Tryd.func73 k73 r73 (by kernel_rfl) ?_
  unfold c73
  simp (maxSteps := 10000000) -dsimp only [go_sem, simprocAttr]
  refine kIf_intro (fun h1 => ?_) (fun h1 => ?_)
  · simp (maxSteps := 10000000) -dsimp only [go_sem, simprocAttr]; rw [if_pos (by simp [decBad, h1])] at h; exact h
  simp (maxSteps := 10000000) -dsimp only [go_sem, simprocAttr]
  refine kIf_intro (fun h2 => ?_) (fun h2 => ?_)
  · simp (maxSteps := 10000000) -dsimp only [go_sem, simprocAttr]; rw [if_pos (by simp [decBad, h1, h2])] at h; exact h
  simp (maxSteps := 10000000) -dsimp only [go_sem, simprocAttr]
  refine kIf_intro (fun h3 => ?_) (fun h3 => ?_)
  · simp (maxSteps := 10000000) -dsimp only [go_sem, simprocAttr]
    refine kIf_intro (fun h4 => ?_) (fun h4 => ?_)
    · simp (maxSteps := 10000000) -dsimp only [go_sem, simprocAttr]; rw [if_pos (by simp [decBad, h1, h2, h3, h4])] at h; exact h
    · simp (maxSteps := 10000000) -dsimp only [go_sem, simprocAttr]; rw [if_neg (by simp [decBad, h1, h2, h3, h4])] at h; exact h
  · simp (maxSteps := 10000000) -dsimp only [go_sem, simprocAttr]; rw [if_neg (by simp [decBad, h1, h2, h3])] at h; exact h

/-- excise/exciseref13.Check -/
def c66 : AC :=
  .seq (.reg [⟨(some 1), none, .op (.box 10 (.t 0))⟩,
    ⟨(some 2), none, .op (.mv (.c (.d (.int .i64 0))) true)⟩]) <|
  .seq (.reg [⟨(some 3), none, .op (.mv (.c (.d (.bool false))) true)⟩]) <|
  .seq (.seq (.reg [⟨(some 4), none, .op (.fa 0 (.t 1))⟩,
    ⟨(some 5), none, .op (.load false 1 (.t 4) false)⟩]) <|
  .block 0 (
    .seq (.reg [⟨(some 7), none, .op (.bin .eql (.t 5) (.c (.d (.int .i64 0))))⟩,
      ⟨(some 6), none, .op (.mv (.t 7) true)⟩]) <|
    .cond (.t 6) (.reg [⟨(some 8), none, .op (.load true 10 (.t 1) false)⟩,
        ⟨(some 9), none, .op (.build [.d (.int .i64 0), .d (.bool false), .d (.int .u64 0), .d (.int .u64 0), .d (.int .u64 0), .d (.int .u64 0), .d (.int .i64 0), .d (.bool false), .d (.str []), .d (.int .i64 0)] [])⟩,
        ⟨(some 10), none, .op (.eqs false [1, 0, 1, 1, 1, 1, 1, 0, 2, 1] (.t 8) (.t 9))⟩,
        ⟨(some 3), none, .op (.mv (.t 10) true)⟩]) (.seq (.reg [⟨(some 12), none, .op (.bin .eql (.t 5) (.c (.d (.int .i64 1))))⟩,
        ⟨(some 11), none, .op (.mv (.t 12) true)⟩]) <|
      .cond (.t 11) (.reg [⟨(some 13), none, .op (.load true 10 (.t 1) false)⟩,
          ⟨(some 14), none, .op (.fa 1 (.t 1))⟩,
          ⟨(some 15), none, .op (.load true 6 (.t 14) false)⟩,
          ⟨(some 16), none, .op (.build [.d (.int .i64 0), .d (.bool false), .d (.int .u64 0), .d (.int .u64 0), .d (.int .u64 0), .d (.int .u64 0), .d (.int .i64 0), .d (.bool false), .d (.str []), .d (.int .i64 0)] [(0, 1, (.c (.d (.int .i64 1)))), (1, 6, (.t 15))])⟩,
          ⟨(some 17), none, .op (.eqs false [1, 0, 1, 1, 1, 1, 1, 0, 2, 1] (.t 13) (.t 16))⟩,
          ⟨(some 18), none, .op (.mv (.t 17) false)⟩,
          ⟨(some 19), (some (18, true)), .op (.fa 1 (.t 1))⟩,
          ⟨(some 20), (some (18, true)), .op (.load true 6 (.t 19) false)⟩,
          ⟨(some 21), (some (18, true)), .call 73 [(.t 20)] none⟩,
          ⟨(some 22), (some (18, true)), .op (.bin .eql (.t 21) (.c (.d (.int .i64 0))))⟩,
          ⟨(some 23), none, .op (.pick (.t 18) (.t 22) (.c (.d (.bool false))))⟩,
          ⟨(some 3), none, .op (.mv (.t 23) true)⟩]) (.seq (.reg [⟨(some 25), none, .op (.bin .eql (.t 5) (.c (.d (.int .i64 2))))⟩,
          ⟨(some 24), none, .op (.mv (.t 25) true)⟩]) <|
        .cond (.t 24) (.reg [⟨(some 26), none, .op (.load true 10 (.t 1) false)⟩,
            ⟨(some 27), none, .op (.fa 7 (.t 1))⟩,
            ⟨(some 28), none, .op (.load false 1 (.t 27) false)⟩,
            ⟨(some 29), none, .op (.build [.d (.int .i64 0), .d (.bool false), .d (.int .u64 0), .d (.int .u64 0), .d (.int .u64 0), .d (.int .u64 0), .d (.int .i64 0), .d (.bool false), .d (.str []), .d (.int .i64 0)] [(0, 1, (.c (.d (.int .i64 2)))), (7, 1, (.t 28))])⟩,
            ⟨(some 30), none, .op (.eqs false [1, 0, 1, 1, 1, 1, 1, 0, 2, 1] (.t 26) (.t 29))⟩,
            ⟨(some 3), none, .op (.mv (.t 30) true)⟩]) (.seq (.reg [⟨(some 32), none, .op (.bin .eql (.t 5) (.c (.d (.int .i64 3))))⟩,
            ⟨(some 31), none, .op (.mv (.t 32) true)⟩]) <|
          .cond (.t 31) (.reg [⟨(some 33), none, .op (.load true 10 (.t 1) false)⟩,
              ⟨(some 34), none, .op (.fa 8 (.t 1))⟩,
              ⟨(some 35), none, .op (.load false 1 (.t 34) false)⟩,
              ⟨(some 36), none, .op (.build [.d (.int .i64 0), .d (.bool false), .d (.int .u64 0), .d (.int .u64 0), .d (.int .u64 0), .d (.int .u64 0), .d (.int .i64 0), .d (.bool false), .d (.str []), .d (.int .i64 0)] [(0, 1, (.c (.d (.int .i64 3)))), (8, 1, (.t 35))])⟩,
              ⟨(some 37), none, .op (.eqs false [1, 0, 1, 1, 1, 1, 1, 0, 2, 1] (.t 33) (.t 36))⟩,
              ⟨(some 38), none, .op (.mv (.t 37) false)⟩,
              ⟨(some 39), (some (38, true)), .op (.fa 8 (.t 1))⟩,
              ⟨(some 40), (some (38, true)), .op (.load false 1 (.t 39) false)⟩,
              ⟨(some 41), (some (38, true)), .op (.lenS (.t 40))⟩,
              ⟨(some 42), (some (38, true)), .op (.bin .leq (.t 41) (.c (.d (.int .i64 64))))⟩,
              ⟨(some 43), none, .op (.pick (.t 38) (.t 42) (.c (.d (.bool false))))⟩,
              ⟨(some 3), none, .op (.mv (.t 43) true)⟩]) (.seq (.reg [⟨(some 45), none, .op (.bin .eql (.t 5) (.c (.d (.int .i64 4))))⟩,
              ⟨(some 44), none, .op (.mv (.t 45) true)⟩]) <|
            .cond (.t 44) (.reg [⟨(some 46), none, .op (.load true 10 (.t 1) false)⟩,
                ⟨(some 47), none, .op (.fa 9 (.t 1))⟩,
                ⟨(some 48), none, .op (.load false 1 (.t 47) false)⟩,
                ⟨(some 49), none, .op (.build [.d (.int .i64 0), .d (.bool false), .d (.int .u64 0), .d (.int .u64 0), .d (.int .u64 0), .d (.int .u64 0), .d (.int .i64 0), .d (.bool false), .d (.str []), .d (.int .i64 0)] [(0, 1, (.c (.d (.int .i64 4)))), (9, 1, (.t 48))])⟩,
                ⟨(some 50), none, .op (.eqs false [1, 0, 1, 1, 1, 1, 1, 0, 2, 1] (.t 46) (.t 49))⟩,
                ⟨(some 51), none, .op (.mv (.t 50) false)⟩,
                ⟨(some 52), (some (51, true)), .op (.fa 9 (.t 1))⟩,
                ⟨(some 53), (some (51, true)), .op (.load false 1 (.t 52) false)⟩,
                ⟨(some 54), (some (51, true)), .op (.bin .geq (.t 53) (.c (.d (.int .i64 1))))⟩,
                ⟨(some 55), none, .op (.pick (.t 51) (.t 54) (.c (.d (.bool false))))⟩,
                ⟨(some 56), none, .op (.mv (.t 55) false)⟩,
                ⟨(some 57), (some (56, true)), .op (.fa 9 (.t 1))⟩,
                ⟨(some 58), (some (56, true)), .op (.load false 1 (.t 57) false)⟩,
                ⟨(some 59), (some (56, true)), .op (.bin .leq (.t 58) (.c (.d (.int .i64 5))))⟩,
                ⟨(some 60), none, .op (.pick (.t 56) (.t 59) (.c (.d (.bool false))))⟩,
                ⟨(some 3), none, .op (.mv (.t 60) true)⟩]) (.skip))))))) <|
  .seq (.seq (.reg [⟨(some 61), none, .op (.mv (.t 3) false)⟩,
    ⟨(some 62), none, .op (.un .not (.t 61))⟩]) <|
  .cond (.t 62) (.seq (.reg [⟨(some 2), none, .op (.mv (.c (.d (.int .i64 1))) true)⟩]) <|
    .ret) (.skip)) <|
  .seq (.reg [⟨(some 2), none, .op (.mv (.c (.d (.int .i64 0))) true)⟩]) <|
  .ret
theorem k66 : Tryd.f66.body.bind (comp Tryd.prog [] Tryd.f66.ntmps) = some c66 := by kernel_rfl
theorem r66 : cRes Tryd.prog Tryd.f66.results.toList = some [.t 2] := by kernel_rfl

theorem cs_valCheck' {kind neg n0 n1 n2 n3 scale flag text err} {R : Out → Prop} (h : R (.ret [.d (.int .i64 (if okV ⟨kind, neg, n0, n1, n2, n3, scale, flag, text, err⟩ = true then 0 else 1))] [] [])) :
    CS Tryd.prog 66 [.agg (encAV ⟨kind, neg, n0, n1, n2, n3, scale, flag, text, err⟩)] [] [] R := by
  refine CS.go Tryd.func66 k66 r66 (by kernel_rfl) ?_
  unfold c66
  simp (maxSteps := 10000000) -dsimp only [go_sem, simprocAttr, encAV]
  refine kIf_intro (fun h0 => ?_) (fun h0 => ?_)
  · simp (maxSteps := 10000000) -dsimp only [go_sem, simprocAttr]
    refine kIf_intro (fun h1 => ?_) (fun h1 => ?_) <;> simp (maxSteps := 10000000) -dsimp only [go_sem, simprocAttr]
    · exact retI h (by clear h; grind [okV])
    · exact retI h (by clear h; grind [okV])
  simp (maxSteps := 10000000) -dsimp only [go_sem, simprocAttr]
  refine kIf_intro (fun h1 => ?_) (fun h1 => ?_)
  · simp (maxSteps := 10000000) -dsimp only [go_sem, simprocAttr]
    refine kIf_intro (fun h2 => ?_) (fun h2 => ?_)
    · simp (maxSteps := 10000000) -dsimp only [go_sem, simprocAttr]
      refine kCS_intro (cs_decCheck' ?_)
      simp (maxSteps := 10000000) -dsimp only [go_sem, simprocAttr]
      cases hd : decBad neg n0 n1 n2 n3 scale
      · simp (maxSteps := 10000000) -dsimp only [go_sem, simprocAttr]
        exact retI h (by clear h; grind [okV])
      · simp (maxSteps := 10000000) -dsimp only [go_sem, simprocAttr]
        exact retI h (by clear h; grind [okV])
    · simp (maxSteps := 10000000) -dsimp only [go_sem, simprocAttr]
      exact retI h (by clear h; grind [okV])
  simp (maxSteps := 10000000) -dsimp only [go_sem, simprocAttr]
  refine kIf_intro (fun h2 => ?_) (fun h2 => ?_)
  · simp (maxSteps := 10000000) -dsimp only [go_sem, simprocAttr]
    refine kIf_intro (fun h3 => ?_) (fun h3 => ?_) <;> simp (maxSteps := 10000000) -dsimp only [go_sem, simprocAttr]
    · exact retI h (by clear h; grind [okV])
    · exact retI h (by clear h; grind [okV])
  simp (maxSteps := 10000000) -dsimp only [go_sem, simprocAttr]
  refine kIf_intro (fun h3 => ?_) (fun h3 => ?_)
  · simp (maxSteps := 10000000) -dsimp only [go_sem, simprocAttr]
    refine kIf_intro (fun h4 => ?_) (fun h4 => ?_)
    · simp (maxSteps := 10000000) -dsimp only [go_sem, simprocAttr]
      refine kImp_intro (fun hl => ?_)
      simp (maxSteps := 10000000) -dsimp only [go_sem, simprocAttr]
      refine kIf_intro (fun h5 => ?_) (fun h5 => ?_) <;> simp (maxSteps := 10000000) -dsimp only [go_sem, simprocAttr]
      · exact retI h (by clear h; grind [okV])
      · exact retI h (by clear h; grind [okV])
    · simp (maxSteps := 10000000) -dsimp only [go_sem, simprocAttr]
      exact retI h (by clear h; grind [okV])
  simp (maxSteps := 10000000) -dsimp only [go_sem, simprocAttr]
  refine kIf_intro (fun h4 => ?_) (fun h4 => ?_)
  · simp (maxSteps := 10000000) -dsimp only [go_sem, simprocAttr]
    refine kIf_intro (fun h5 => ?_) (fun h5 => ?_)
    · simp (maxSteps := 10000000) -dsimp only [go_sem, simprocAttr]
      refine kIf_intro (fun h6 => ?_) (fun h6 => ?_)
      · simp (maxSteps := 10000000) -dsimp only [go_sem, simprocAttr]
        refine kIf_intro (fun h7 => ?_) (fun h7 => ?_) <;> simp (maxSteps := 10000000) -dsimp only [go_sem, simprocAttr]
        · exact retI h (by clear h; grind [okV])
        · exact retI h (by clear h; grind [okV])
      · simp (maxSteps := 10000000) -dsimp only [go_sem, simprocAttr]
        exact retI h (by clear h; grind [okV])
    · simp (maxSteps := 10000000) -dsimp only [go_sem, simprocAttr]
      exact retI h (by clear h; grind [okV])
  · simp (maxSteps := 10000000) -dsimp only [go_sem, simprocAttr]
    exact retI h (by clear h; grind [okV])

/-- excise/exciseref25.values -/
def c46 : AC :=
  .seq (.reg [⟨(some 2), none, .op (.mv (.c (.d (.bool false))) true)⟩]) <|
  .seq (.seq (.reg [⟨(some 4), none, .op (.mv (.t 0) false)⟩,
    ⟨(some 5), none, .op (.len (.t 4))⟩,
    ⟨(some 6), none, .op (.bin .gtr (.t 5) (.c (.d (.int .i64 64))))⟩]) <|
  .cond (.t 6) (.seq (.reg [⟨(some 2), none, .op (.mv (.c (.d (.bool false))) true)⟩]) <|
    .ret) (.skip)) <|
  .seq (.seq (.reg [⟨(some 3), none, .op (.mv (.c (.d (.int .i64 0))) true)⟩]) <|
  .block 0 (
    .loop (
      .seq (.seq (.reg [⟨(some 7), none, .op (.mv (.t 3) false)⟩,
        ⟨(some 8), none, .op (.mv (.t 0) false)⟩,
        ⟨(some 9), none, .op (.len (.t 8))⟩,
        ⟨(some 10), none, .op (.bin .lss (.t 7) (.t 9))⟩]) <|
      .cond (.t 10) (.skip) (.exit 0)) <|
      .seq (.block 1 (
        .seq (.reg [⟨(some 13), none, .op (.mv (.t 0) false)⟩,
          ⟨(some 14), none, .op (.mv (.t 3) false)⟩,
          ⟨(some 15), none, .op (.ixs 10 (.t 13) (.t 14))⟩,
          ⟨(some 16), none, .op (.load true 10 (.t 15) false)⟩,
          ⟨(some 17), none, .call 66 [(.t 16)] none⟩,
          ⟨(some 18), none, .op (.bin .neq (.t 17) (.c (.d (.int .i64 0))))⟩]) <|
        .cond (.t 18) (.seq (.reg [⟨(some 2), none, .op (.mv (.c (.d (.bool false))) true)⟩]) <|
          .ret) (.skip))) <|
      .reg [⟨(some 11), none, .op (.mv (.t 3) false)⟩,
        ⟨(some 12), none, .op (.bin .add (.t 11) (.c (.d (.int .i64 1))))⟩,
        ⟨(some 3), none, .op (.mv (.t 12) true)⟩]))) <|
  .seq (.reg [⟨(some 2), none, .op (.mv (.c (.d (.bool true))) true)⟩]) <|
  .ret
theorem k46 : Tryd.f46.body.bind (comp Tryd.prog [] Tryd.f46.ntmps) = some c46 := by kernel_rfl
theorem r46 : cRes Tryd.prog Tryd.f46.results.toList = some [.t 2] := by kernel_rfl

theorem cs_valuesR {vs : List Val} {R : Out → Prop} (h : R (.ret [.d (.bool (!badL vs))] [] [])) :
    CS Tryd.prog 46 [.d (.sl 10 (vs.map encV))] [] [] R := by
  refine CS.go Tryd.func46 k46 r46 (by kernel_rfl) ?_
  unfold c46
  simp (maxSteps := 10000000) -dsimp only [go_sem, simprocAttr]
  refine kImp_intro (fun hl => ?_)
  simp (maxSteps := 10000000) -dsimp only [go_sem, simprocAttr]
  refine kIf_intro (fun h1 => ?_) (fun h1 => ?_)
  · simp (maxSteps := 10000000) -dsimp only [go_sem, simprocAttr]
    exact retB h (by simp at h1; simp [badL]; intro; omega)
  have h1 : vs.length ≤ 64 := by simp at h1; omega
  simp (maxSteps := 10000000) -dsimp only [go_sem, simprocAttr]
  refine kLoop_intro (loop_rule (ι := { i : Nat // i ≤ vs.length ∧ (vs.take i).all okV = true }) (fun i => ⟨Tryd.f46.ntmps, 1000, [(3, .d (.int .i64 i.1)), (0, .d (.sl 10 (vs.map encV)))], [], []⟩) (fun i => vs.length - i.1) ⟨0, by omega, rfl⟩ ?_ (fun _ => ⟨rfl, rfl⟩) ?_)
  · refine weak_mk ?_ ?_ ?_ ?_ ?_ <;> simp (maxSteps := 10000000) -dsimp only [go_sem, simprocAttr]
  rintro ⟨i, hi, hall⟩
  simp (maxSteps := 10000000) -dsimp only [go_sem, simprocAttr]
  refine kImp_intro (fun _ => ?_)
  simp (maxSteps := 10000000) -dsimp only [go_sem, simprocAttr]
  refine kIf_intro (fun h2 => ?_) (fun h2 => ?_)
  · have hlt : i < vs.length := by simpa using h2
    obtain ⟨v, hv⟩ : ∃ v, vs[i]? = some v := ⟨_, List.getElem?_eq_getElem hlt⟩
    have hm := List.mem_of_getElem? hv
    obtain ⟨kind, neg, n0, n1, n2, n3, scale, flag, text, err⟩ := v
    simp (maxSteps := 10000000) -dsimp only [go_sem, simprocAttr]
    refine kAnd_intro (by omega) ?_
    simp (maxSteps := 10000000) -dsimp only [go_sem, simprocAttr, getD_enc hv, encV]
    refine kCS_intro (cs_valCheck' ?_)
    cases ho : okV ⟨kind, neg, n0, n1, n2, n3, scale, flag, text, err⟩ with
    | false =>
      simp (maxSteps := 10000000) -dsimp only [go_sem, simprocAttr]
      exact retB h (by
        have : vs.all okV = false := List.all_eq_false.2 ⟨_, hm, by rw [ho]; decide⟩
        simp [badL, this])
    | true =>
      simp (maxSteps := 10000000) -dsimp only [go_sem, simprocAttr]
      refine ⟨⟨i + 1, hlt, by rw [List.take_add_one, hv]; simp [hall, ho]⟩, by show _ - (i + 1) < _ - i; omega, ?_⟩
      refine weak_mk ?_ ?_ ?_ ?_ ?_ <;> simp (maxSteps := 10000000) -dsimp only [go_sem, simprocAttr]
      rw [wrap_i64 (by omega) (by omega)]
      rfl
  · have : i = vs.length := by
      have : ¬ (i : Int) < vs.length := by simpa using h2
      omega
    subst this
    rw [List.take_length] at hall
    simp (maxSteps := 10000000) -dsimp only [go_sem, simprocAttr]
    exact retB h (by simp [badL, hall]; omega)

end Go.Vx

/- The document's own checks of rows, their number, and of returns. -/
namespace Go.Vx
set_option linter.unusedVariables false
set_option linter.unusedSimpArgs false
open Go Go.Proofs
set_option linter.unusedSimpArgs false
set_option linter.unusedVariables false
set_option maxRecDepth 10000
set_option maxHeartbeats 4000000

def RowsCs' (f : Fil) : Prop := ∀ (R : Out → Prop), R (.ret [.d (.int .i64 (rowsF f))] [] []) → CS Tryd.prog 15 [.agg ((encF f).map .d)] [] [] R

/-- excise/exciseref25.Rows -/
def c15 : AC :=
  .seq (.reg [⟨(some 1), none, .op (.box 3 (.t 0))⟩,
    ⟨(some 2), none, .op (.mv (.c (.d (.int .i64 0))) true)⟩]) <|
  .seq (.reg [⟨(some 3), none, .op (.mv (.c (.d (.int .i64 0))) true)⟩]) <|
  .seq (.seq (.reg [⟨(some 4), none, .op (.mv (.c (.d (.int .i64 0))) true)⟩]) <|
  .block 0 (
    .loop (
      .seq (.seq (.reg [⟨(some 6), none, .op (.mv (.t 4) false)⟩,
        ⟨(some 7), none, .op (.fa 2 (.t 1))⟩,
        ⟨(some 8), none, .op (.load false 1 (.t 7) false)⟩,
        ⟨(some 9), none, .op (.len (.t 8))⟩,
        ⟨(some 10), none, .op (.bin .lss (.t 6) (.t 9))⟩]) <|
      .cond (.t 10) (.skip) (.exit 0)) <|
      .seq (.block 1 (
        .seq (.reg [⟨(some 5), none, .op (.mv (.c (.d (.int .i64 0))) true)⟩]) <|
        .block 2 (
          .loop (
            .seq (.seq (.reg [⟨(some 13), none, .op (.mv (.t 5) false)⟩,
              ⟨(some 14), none, .op (.fa 2 (.t 1))⟩,
              ⟨(some 15), none, .op (.load false 1 (.t 14) false)⟩,
              ⟨(some 16), none, .op (.mv (.t 4) false)⟩,
              ⟨(some 17), none, .op (.ixs 1 (.t 15) (.t 16))⟩,
              ⟨(some 18), none, .op (.load false 1 (.t 17) false)⟩,
              ⟨(some 19), none, .op (.len (.t 18))⟩,
              ⟨(some 20), none, .op (.bin .lss (.t 13) (.t 19))⟩]) <|
            .cond (.t 20) (.skip) (.exit 2)) <|
            .seq (.block 3 (
              .reg [⟨(some 23), none, .op (.mv (.t 3) false)⟩,
                ⟨(some 24), none, .op (.fa 2 (.t 1))⟩,
                ⟨(some 25), none, .op (.load false 1 (.t 24) false)⟩,
                ⟨(some 26), none, .op (.mv (.t 4) false)⟩,
                ⟨(some 27), none, .op (.ixs 1 (.t 25) (.t 26))⟩,
                ⟨(some 28), none, .op (.load false 1 (.t 27) false)⟩,
                ⟨(some 29), none, .op (.mv (.t 5) false)⟩,
                ⟨(some 30), none, .op (.ixs 3 (.t 28) (.t 29))⟩,
                ⟨(some 31), none, .op (.load true 3 (.t 30) false)⟩,
                ⟨(some 32), none, .call 15 [(.t 31)] none⟩,
                ⟨(some 33), none, .op (.bin .add (.c (.d (.int .i64 1))) (.t 32))⟩,
                ⟨(some 34), none, .op (.bin .add (.t 23) (.t 33))⟩,
                ⟨(some 3), none, .op (.mv (.t 34) true)⟩])) <|
            .reg [⟨(some 21), none, .op (.mv (.t 5) false)⟩,
              ⟨(some 22), none, .op (.bin .add (.t 21) (.c (.d (.int .i64 1))))⟩,
              ⟨(some 5), none, .op (.mv (.t 22) true)⟩])))) <|
      .reg [⟨(some 11), none, .op (.mv (.t 4) false)⟩,
        ⟨(some 12), none, .op (.bin .add (.t 11) (.c (.d (.int .i64 1))))⟩,
        ⟨(some 4), none, .op (.mv (.t 12) true)⟩]))) <|
  .seq (.reg [⟨(some 35), none, .op (.mv (.t 3) false)⟩,
    ⟨(some 2), none, .op (.mv (.t 35) true)⟩]) <|
  .ret
theorem k15 : Tryd.f15.body.bind (comp Tryd.prog [] Tryd.f15.ntmps) = some c15 := by kernel_rfl
theorem r15 : cRes Tryd.prog Tryd.f15.results.toList = some [.t 2] := by kernel_rfl

theorem cs_rows' : ∀ f : Fil, RowsCs' f := by
  refine Fil.ind (fun v l k ih => ?_)
  intro R h
  refine CS.go Tryd.func15 k15 r15 (by kernel_rfl) ?_
  unfold c15
  simp (maxSteps := 10000000) -dsimp only [go_sem, simprocAttr, encF]
  refine kLoop_intro (loop_rule (ι := { p : Nat × Int // p.1 ≤ k.length ∧ rowsK (k.drop p.1) p.2 = rowsK k 0 })
    (fun i => ⟨Tryd.f15.ntmps, 1000, [(4, .d (.int .i64 i.1.1)), (3, .d (.int .i64 i.1.2)), (1, .ptr 1001 0)], [(1001, [.d (.sl 10 (v.map encV)), .d (.sl 10 (l.map encV)), .d (.sl 1 (encK k))])], []⟩) (fun i => k.length - i.1.1) ⟨(0, 0), by omega, by simp⟩ ?_ (fun _ => ⟨rfl, rfl⟩) ?_)
  · refine weak_mk ?_ ?_ ?_ ?_ ?_ <;> simp (maxSteps := 10000000) -dsimp only [go_sem, simprocAttr]
  rintro ⟨⟨i, n⟩, hi, hinv⟩
  simp only at hi hinv
  simp (maxSteps := 10000000) -dsimp only [go_sem, simprocAttr]
  refine kImp_intro (fun hl => ?_)
  simp (maxSteps := 10000000) -dsimp only [go_sem, simprocAttr]
  refine kIf_intro (fun h5 => ?_) (fun h5 => ?_)
  · have hlt : i < k.length := by simpa using h5
    obtain ⟨r, hv⟩ : ∃ r, k[i]? = some r := ⟨_, List.getElem?_eq_getElem hlt⟩
    have hmem := List.mem_of_getElem? hv
    rw [drop_cons hv, rowsK] at hinv
    simp (maxSteps := 10000000) -dsimp only [go_sem, simprocAttr]
    refine kLoop_intro (loop_rule (ι := { p : Nat × Int // p.1 ≤ r.length ∧ rowsR (r.drop p.1) p.2 = rowsR r n })
      (fun j => ⟨Tryd.f15.ntmps, 1000, [(5, .d (.int .i64 j.1.1)), (4, .d (.int .i64 i)), (3, .d (.int .i64 j.1.2)), (1, .ptr 1001 0)], [(1001, [.d (.sl 10 (v.map encV)), .d (.sl 10 (l.map encV)), .d (.sl 1 (encK k))])], []⟩) (fun i => r.length - i.1.1) ⟨(0, n), by omega, by simp⟩ ?_ (fun _ => ⟨rfl, rfl⟩) ?_)
    · refine weak_mk ?_ ?_ ?_ ?_ ?_ <;> simp (maxSteps := 10000000) -dsimp only [go_sem, simprocAttr]
    rintro ⟨⟨j, m⟩, hj, hinv2⟩
    simp only at hj hinv2
    simp (maxSteps := 10000000) -dsimp only [go_sem, simprocAttr]
    refine kAnd_intro (by omega) ?_
    simp (maxSteps := 10000000) -dsimp only [go_sem, simprocAttr, getD_encK hv]
    refine kImp_intro (fun hl2 => ?_)
    simp (maxSteps := 10000000) -dsimp only [go_sem, simprocAttr]
    refine kIf_intro (fun h6 => ?_) (fun h6 => ?_)
    · have hlt2 : j < r.length := by simpa using h6
      obtain ⟨f, hf⟩ : ∃ f, r[j]? = some f := ⟨_, List.getElem?_eq_getElem hlt2⟩
      have hmf := List.mem_of_getElem? hf
      rw [drop_cons hf, rowsR] at hinv2
      obtain ⟨fv, fl, fk⟩ := f
      simp (maxSteps := 10000000) -dsimp only [go_sem, simprocAttr]
      refine kAnd_intro (by omega) ?_
      simp (maxSteps := 10000000) -dsimp only [go_sem, simprocAttr, getD_encK hv, getD_encR hf, encF]
      refine kAnd_intro (by omega) ?_
      simp (maxSteps := 10000000) -dsimp only [go_sem, simprocAttr, getD_encK hv, getD_encR hf, encF]
      refine kCS_intro (ih r hmem _ hmf _ ?_)
      simp (maxSteps := 10000000) -dsimp only [go_sem, simprocAttr]
      refine ⟨⟨(j + 1, _), hlt2, hinv2⟩, by show _ - (j + 1) < _ - j; omega, ?_⟩
      refine weak_mk ?_ ?_ ?_ ?_ ?_ <;> simp (maxSteps := 10000000) -dsimp only [go_sem, simprocAttr]
      rw [wrap_i64 (by omega) (by omega)]
      exact ⟨rfl, rfl⟩
    · have : j = r.length := by
        have : ¬ (j : Int) < r.length := by simpa using h6
        omega
      subst this
      rw [List.drop_length, rowsR] at hinv2
      simp (maxSteps := 10000000) -dsimp only [go_sem, simprocAttr]
      refine ⟨⟨(i + 1, m), hlt, by rw [hinv2]; exact hinv⟩, by show _ - (i + 1) < _ - i; omega, ?_⟩
      refine weak_mk ?_ ?_ ?_ ?_ ?_ <;> simp (maxSteps := 10000000) -dsimp only [go_sem, simprocAttr]
      rw [wrap_i64 (by omega) (by omega)]
      rfl
  · simp (maxSteps := 10000000) -dsimp only [go_sem, simprocAttr]
    have : i = k.length := by
      have : ¬ (i : Int) < k.length := by simpa using h5
      omega
    subst this
    rw [List.drop_length, rowsK] at hinv
    subst hinv
    rw [rowsF] at h; exact h

def RowCs (f : Fil) : Prop := ∀ (a : Nat) (R : Out → Prop), a ≤ 4 → R (.ret [.d (.bool (mayF f a))] [] []) → CS Tryd.prog 28 [.agg ((encF f).map .d), .d (.int .i64 a)] [] [] R

/-- excise/exciseref25.row -/
def c28 : AC :=
  .seq (.reg [⟨(some 2), none, .op (.box 3 (.t 0))⟩,
    ⟨(some 4), none, .op (.mv (.c (.d (.bool false))) true)⟩]) <|
  .seq (.seq (.reg [⟨(some 7), none, .op (.mv (.t 1) false)⟩,
    ⟨(some 8), none, .op (.bin .geq (.t 7) (.c (.d (.int .i64 4))))⟩,
    ⟨(some 9), none, .op (.mv (.t 8) false)⟩,
    ⟨(some 10), (some (9, false)), .op (.fa 0 (.t 2))⟩,
    ⟨(some 11), (some (9, false)), .op (.load false 1 (.t 10) false)⟩,
    ⟨(some 12), (some (9, false)), .call 46 [(.t 11)] none⟩,
    ⟨(some 13), (some (9, false)), .op (.un .not (.t 12))⟩,
    ⟨(some 14), none, .op (.pick (.t 9) (.c (.d (.bool true))) (.t 13))⟩,
    ⟨(some 15), none, .op (.mv (.t 14) false)⟩,
    ⟨(some 16), (some (15, false)), .op (.fa 1 (.t 2))⟩,
    ⟨(some 17), (some (15, false)), .op (.load false 1 (.t 16) false)⟩,
    ⟨(some 18), (some (15, false)), .call 46 [(.t 17)] none⟩,
    ⟨(some 19), (some (15, false)), .op (.un .not (.t 18))⟩,
    ⟨(some 20), none, .op (.pick (.t 15) (.c (.d (.bool true))) (.t 19))⟩,
    ⟨(some 21), none, .op (.mv (.t 20) false)⟩,
    ⟨(some 22), (some (21, false)), .op (.fa 2 (.t 2))⟩,
    ⟨(some 23), (some (21, false)), .op (.load false 1 (.t 22) false)⟩,
    ⟨(some 24), (some (21, false)), .op (.len (.t 23))⟩,
    ⟨(some 25), (some (21, false)), .op (.bin .gtr (.t 24) (.c (.d (.int .i64 16))))⟩,
    ⟨(some 26), none, .op (.pick (.t 21) (.c (.d (.bool true))) (.t 25))⟩]) <|
  .cond (.t 26) (.seq (.reg [⟨(some 4), none, .op (.mv (.c (.d (.bool false))) true)⟩]) <|
    .ret) (.skip)) <|
  .seq (.seq (.reg [⟨(some 5), none, .op (.mv (.c (.d (.int .i64 0))) true)⟩]) <|
  .block 0 (
    .loop (
      .seq (.seq (.reg [⟨(some 27), none, .op (.mv (.t 5) false)⟩,
        ⟨(some 28), none, .op (.fa 2 (.t 2))⟩,
        ⟨(some 29), none, .op (.load false 1 (.t 28) false)⟩,
        ⟨(some 30), none, .op (.len (.t 29))⟩,
        ⟨(some 31), none, .op (.bin .lss (.t 27) (.t 30))⟩]) <|
      .cond (.t 31) (.skip) (.exit 0)) <|
      .seq (.block 1 (
        .seq (.seq (.reg [⟨(some 34), none, .op (.fa 2 (.t 2))⟩,
          ⟨(some 35), none, .op (.load false 1 (.t 34) false)⟩,
          ⟨(some 36), none, .op (.mv (.t 5) false)⟩,
          ⟨(some 37), none, .op (.ixs 1 (.t 35) (.t 36))⟩,
          ⟨(some 38), none, .op (.load false 1 (.t 37) false)⟩,
          ⟨(some 39), none, .op (.len (.t 38))⟩,
          ⟨(some 40), none, .op (.bin .gtr (.t 39) (.c (.d (.int .i64 1024))))⟩]) <|
        .cond (.t 40) (.seq (.reg [⟨(some 4), none, .op (.mv (.c (.d (.bool false))) true)⟩]) <|
          .ret) (.skip)) <|
        .seq (.reg [⟨(some 6), none, .op (.mv (.c (.d (.int .i64 0))) true)⟩]) <|
        .block 2 (
          .loop (
            .seq (.seq (.reg [⟨(some 41), none, .op (.mv (.t 6) false)⟩,
              ⟨(some 42), none, .op (.fa 2 (.t 2))⟩,
              ⟨(some 43), none, .op (.load false 1 (.t 42) false)⟩,
              ⟨(some 44), none, .op (.mv (.t 5) false)⟩,
              ⟨(some 45), none, .op (.ixs 1 (.t 43) (.t 44))⟩,
              ⟨(some 46), none, .op (.load false 1 (.t 45) false)⟩,
              ⟨(some 47), none, .op (.len (.t 46))⟩,
              ⟨(some 48), none, .op (.bin .lss (.t 41) (.t 47))⟩]) <|
            .cond (.t 48) (.skip) (.exit 2)) <|
            .seq (.block 3 (
              .seq (.reg [⟨(some 51), none, .op (.fa 2 (.t 2))⟩,
                ⟨(some 52), none, .op (.load false 1 (.t 51) false)⟩,
                ⟨(some 53), none, .op (.mv (.t 5) false)⟩,
                ⟨(some 54), none, .op (.ixs 1 (.t 52) (.t 53))⟩,
                ⟨(some 55), none, .op (.load false 1 (.t 54) false)⟩,
                ⟨(some 56), none, .op (.mv (.t 6) false)⟩,
                ⟨(some 57), none, .op (.ixs 3 (.t 55) (.t 56))⟩,
                ⟨(some 58), none, .op (.load true 3 (.t 57) false)⟩,
                ⟨(some 59), none, .op (.mv (.t 1) false)⟩,
                ⟨(some 60), none, .op (.bin .add (.t 59) (.c (.d (.int .i64 1))))⟩,
                ⟨(some 61), none, .call 28 [(.t 58), (.t 60)] none⟩,
                ⟨(some 62), none, .op (.un .not (.t 61))⟩]) <|
              .cond (.t 62) (.seq (.reg [⟨(some 4), none, .op (.mv (.c (.d (.bool false))) true)⟩]) <|
                .ret) (.skip))) <|
            .reg [⟨(some 49), none, .op (.mv (.t 6) false)⟩,
              ⟨(some 50), none, .op (.bin .add (.t 49) (.c (.d (.int .i64 1))))⟩,
              ⟨(some 6), none, .op (.mv (.t 50) true)⟩])))) <|
      .reg [⟨(some 32), none, .op (.mv (.t 5) false)⟩,
        ⟨(some 33), none, .op (.bin .add (.t 32) (.c (.d (.int .i64 1))))⟩,
        ⟨(some 5), none, .op (.mv (.t 33) true)⟩]))) <|
  .seq (.reg [⟨(some 4), none, .op (.mv (.c (.d (.bool true))) true)⟩]) <|
  .ret
theorem k28 : Tryd.f28.body.bind (comp Tryd.prog [] Tryd.f28.ntmps) = some c28 := by kernel_rfl
theorem r28 : cRes Tryd.prog Tryd.f28.results.toList = some [.t 4] := by kernel_rfl

theorem cs_row' : ∀ f : Fil, RowCs f := by
  refine Fil.ind (fun v l k ih => ?_)
  intro a R ha h
  refine CS.go Tryd.func28 k28 r28 (by kernel_rfl) ?_
  unfold c28
  simp (maxSteps := 10000000) -dsimp only [go_sem, simprocAttr, encF]
  refine kIf_intro (fun h1 => ?_) (fun h1 => ?_)
  · simp (maxSteps := 10000000) -dsimp only [go_sem, simprocAttr]
    exact retB h (by simp at h1; simp [mayF]; intro; omega)
  have h1 : a < 4 := by simp at h1; omega
  simp (maxSteps := 10000000) -dsimp only [go_sem, simprocAttr]
  refine kCS_intro (cs_valuesR ?_)
  cases h2 : badL v with
  | true =>
    simp (maxSteps := 10000000) -dsimp only [go_sem, simprocAttr]
    exact retB h (by simp [mayF, h2])
  | false =>
  simp (maxSteps := 10000000) -dsimp only [go_sem, simprocAttr]
  refine kCS_intro (cs_valuesR ?_)
  cases h3 : badL l with
  | true =>
    simp (maxSteps := 10000000) -dsimp only [go_sem, simprocAttr]
    exact retB h (by simp [mayF, h3])
  | false =>
  simp (maxSteps := 10000000) -dsimp only [go_sem, simprocAttr]
  refine kImp_intro (fun hl => ?_)
  simp (maxSteps := 10000000) -dsimp only [go_sem, simprocAttr]
  refine kIf_intro (fun h4 => ?_) (fun h4 => ?_)
  · simp (maxSteps := 10000000) -dsimp only [go_sem, simprocAttr]
    exact retB h (by simp at h4; simp [mayF]; intro _ _ _ _; omega)
  have h4 : k.length ≤ 16 := by simp at h4; omega
  simp (maxSteps := 10000000) -dsimp only [go_sem, simprocAttr]
  refine kLoop_intro (loop_rule (ι := { i : Nat // i ≤ k.length ∧ mayK (k.take i) (a + 1) = true })
    (fun i => ⟨Tryd.f28.ntmps, 1000, [(5, .d (.int .i64 i.1)), (2, .ptr 1002 0), (1, .d (.int .i64 a))], [(1002, [.d (.sl 10 (v.map encV)), .d (.sl 10 (l.map encV)), .d (.sl 1 (encK k))])], []⟩) (fun i => k.length - i.1) ⟨0, by omega, by simp [mayK]⟩ ?_ (fun _ => ⟨rfl, rfl⟩) ?_)
  · refine weak_mk ?_ ?_ ?_ ?_ ?_ <;> simp (maxSteps := 10000000) -dsimp only [go_sem, simprocAttr]
  rintro ⟨i, hi, hall⟩
  simp (maxSteps := 10000000) -dsimp only [go_sem, simprocAttr]
  refine kImp_intro (fun hl => ?_)
  simp (maxSteps := 10000000) -dsimp only [go_sem, simprocAttr]
  refine kIf_intro (fun h5 => ?_) (fun h5 => ?_)
  · have hlt : i < k.length := by simpa using h5
    obtain ⟨r, hv⟩ : ∃ r, k[i]? = some r := ⟨_, List.getElem?_eq_getElem hlt⟩
    have hmem := List.mem_of_getElem? hv
    have no : (decide (r.length ≤ 1024) && r.all (mayF · (a + 1))) = false → mayF (.mk v l k) a = false := by
      intro hr
      have : k.all (fun r => decide (r.length ≤ 1024) && r.all (mayF · (a + 1))) = false := by
        rw [List.all_eq_false]
        exact ⟨r, hmem, by rw [hr]; decide⟩
      simp only [mayF, mayK_all, this, Bool.and_false]
    simp (maxSteps := 10000000) -dsimp only [go_sem, simprocAttr]
    refine kAnd_intro (by omega) ?_
    simp (maxSteps := 10000000) -dsimp only [go_sem, simprocAttr, getD_encK hv]
    refine kImp_intro (fun hl => ?_)
    simp (maxSteps := 10000000) -dsimp only [go_sem, simprocAttr]
    refine kIf_intro (fun h6 => ?_) (fun h6 => ?_)
    · simp (maxSteps := 10000000) -dsimp only [go_sem, simprocAttr]
      exact retB h (no (by
        have : ¬ r.length ≤ 1024 := by simp at h6; omega
        simp [this])).symm.symm
    have h6 : r.length ≤ 1024 := by simp at h6; omega
    simp (maxSteps := 10000000) -dsimp only [go_sem, simprocAttr]
    refine kLoop_intro (loop_rule (ι := { j : Nat // j ≤ r.length ∧ (r.take j).all (mayF · (a + 1)) = true })
      (fun j => ⟨Tryd.f28.ntmps, 1000, [(6, .d (.int .i64 j.1)), (5, .d (.int .i64 i)), (2, .ptr 1002 0), (1, .d (.int .i64 a))], [(1002, [.d (.sl 10 (v.map encV)), .d (.sl 10 (l.map encV)), .d (.sl 1 (encK k))])], []⟩) (fun j => r.length - j.1) ⟨0, by omega, rfl⟩ ?_ (fun _ => ⟨rfl, rfl⟩) ?_)
    · refine weak_mk ?_ ?_ ?_ ?_ ?_ <;> simp (maxSteps := 10000000) -dsimp only [go_sem, simprocAttr]
    rintro ⟨j, hj, hall2⟩
    simp (maxSteps := 10000000) -dsimp only [go_sem, simprocAttr]
    refine kAnd_intro (by omega) ?_
    simp (maxSteps := 10000000) -dsimp only [go_sem, simprocAttr, getD_encK hv]
    refine kImp_intro (fun hl2 => ?_)
    simp (maxSteps := 10000000) -dsimp only [go_sem, simprocAttr]
    refine kIf_intro (fun h7 => ?_) (fun h7 => ?_)
    · have hjt : j < r.length := by simpa using h7
      obtain ⟨f, hf⟩ : ∃ f, r[j]? = some f := ⟨_, List.getElem?_eq_getElem hjt⟩
      have hmf := List.mem_of_getElem? hf
      obtain ⟨fv, fl, fk⟩ := f
      simp (maxSteps := 10000000) -dsimp only [go_sem, simprocAttr]
      refine kAnd_intro (by omega) ?_
      simp (maxSteps := 10000000) -dsimp only [go_sem, simprocAttr, getD_encK hv, getD_encR hf, encF]
      refine kAnd_intro (by omega) ?_
      simp (maxSteps := 10000000) -dsimp only [go_sem, simprocAttr, getD_encK hv, getD_encR hf, encF]
      rw [wrap_i64 (by omega) (by omega), show (a : Int) + 1 = ((a + 1 : Nat) : Int) by omega]
      refine kCS_intro (ih r hmem _ hmf (a + 1) _ (by omega) ?_)
      cases h8 : mayF (.mk fv fl fk) (a + 1) with
      | false =>
        simp (maxSteps := 10000000) -dsimp only [go_sem, simprocAttr]
        exact retB h (no (by
          have : r.all (mayF · (a + 1)) = false := List.all_eq_false.2 ⟨_, hmf, by simp only [h8]; decide⟩
          rw [this, Bool.and_false]))
      | true =>
        simp (maxSteps := 10000000) -dsimp only [go_sem, simprocAttr]
        refine ⟨⟨j + 1, hjt, by rw [List.take_add_one, hf]; simp [hall2, h8]⟩, by show _ - (j + 1) < _ - j; omega, ?_⟩
        refine weak_mk ?_ ?_ ?_ ?_ ?_ <;> simp (maxSteps := 10000000) -dsimp only [go_sem, simprocAttr]
        rw [wrap_i64 (by omega) (by omega)]
        rfl
    · have : j = r.length := by
        have : ¬ (j : Int) < r.length := by simpa using h7
        omega
      subst this
      rw [List.take_length] at hall2
      simp (maxSteps := 10000000) -dsimp only [go_sem, simprocAttr]
      refine ⟨⟨i + 1, hlt, ?_⟩, by show _ - (i + 1) < _ - i; omega, ?_⟩
      · rw [mayK_all] at hall ⊢
        rw [List.take_add_one, hv]
        simp [hall, hall2, h6]
      · refine weak_mk ?_ ?_ ?_ ?_ ?_ <;> simp (maxSteps := 10000000) -dsimp only [go_sem, simprocAttr]
        rw [wrap_i64 (by omega) (by omega)]
        rfl
  · simp (maxSteps := 10000000) -dsimp only [go_sem, simprocAttr]
    have : i = k.length := by
      have : ¬ (i : Int) < k.length := by simpa using h5
      omega
    subst this
    rw [List.take_length] at hall
    exact retB h (by simp [mayF, h1, h2, h3, h4, hall])

/-- excise/exciseref25.Check -/
def c13 : AC :=
  .seq (.reg [⟨(some 1), none, .op (.box 35 (.t 0))⟩,
    ⟨(some 2), none, .op (.mv (.c (.d (.int .i64 0))) true)⟩]) <|
  .seq (.seq (.reg [⟨(some 3), none, .op (.fa 32 (.t 1))⟩,
    ⟨(some 4), none, .op (.load true 3 (.t 3) false)⟩,
    ⟨(some 5), none, .call 28 [(.t 4), (.c (.d (.int .i64 0)))] none⟩,
    ⟨(some 6), none, .op (.un .not (.t 5))⟩,
    ⟨(some 7), none, .op (.mv (.t 6) false)⟩,
    ⟨(some 8), (some (7, false)), .op (.fa 32 (.t 1))⟩,
    ⟨(some 9), (some (7, false)), .op (.load true 3 (.t 8) false)⟩,
    ⟨(some 10), (some (7, false)), .call 15 [(.t 9)] none⟩,
    ⟨(some 11), (some (7, false)), .op (.bin .gtr (.t 10) (.c (.d (.int .i64 4096))))⟩,
    ⟨(some 12), none, .op (.pick (.t 7) (.c (.d (.bool true))) (.t 11))⟩]) <|
  .cond (.t 12) (.seq (.reg [⟨(some 2), none, .op (.mv (.c (.d (.int .i64 250))) true)⟩]) <|
    .ret) (.skip)) <|
  .seq (.reg [⟨(some 2), none, .op (.mv (.c (.d (.int .i64 0))) true)⟩]) <|
  .ret
theorem k13 : Tryd.f13.body.bind (comp Tryd.prog [] Tryd.f13.ntmps) = some c13 := by kernel_rfl
theorem r13 : cRes Tryd.prog Tryd.f13.results.toList = some [.t 2] := by kernel_rfl

theorem cs_check' {dig : List Int} (hd : dig.length = 32) {f : Fil} {R : Out → Prop} (h : R (.ret [.d (.int .i64 (if okRet f = true then 0 else 250))] [] [])) :
    CS Tryd.prog 13 [.agg ((dig.map (D.int .u8) ++ encF f).map .d)] [] [] R := by
  refine CS.go Tryd.func13 k13 r13 (by kernel_rfl) ?_
  unfold c13
  obtain ⟨v, l, k⟩ := f
  have hdr : ((dig.map (D.int .u8) ++ encF (.mk v l k)).map A.d).drop 32 = (encF (.mk v l k)).map .d := by
    rw [List.map_append]
    exact List.drop_left' (by simp [hd])
  have hlen : ((dig.map (D.int .u8) ++ encF (.mk v l k)).map A.d).length = 35 := by simp [hd, encF]
  generalize ((dig.map (D.int .u8) ++ encF (.mk v l k)).map A.d) = cs at hdr hlen
  simp (maxSteps := 10000000) -dsimp only [go_sem, simprocAttr, hdr, hlen, encF]
  refine kCS_intro (cs_row' (.mk v l k) 0 _ (by omega) ?_)
  cases hm : mayF (.mk v l k) 0
  · simp (maxSteps := 10000000) -dsimp only [go_sem, simprocAttr]
    exact retI h (by simp [okRet, hm])
  · simp (maxSteps := 10000000) -dsimp only [go_sem, simprocAttr, hdr, hlen, encF]
    refine kCS_intro (cs_rows' (.mk v l k) _ ?_)
    simp (maxSteps := 10000000) -dsimp only [go_sem, simprocAttr]
    refine kIf_intro (fun h1 => ?_) (fun h1 => ?_) <;> simp (maxSteps := 10000000) -dsimp only [go_sem, simprocAttr]
    · exact retI h (by simp at h1; simp [okRet, hm]; omega)
    · exact retI h (by simp at h1; simp [okRet, hm]; omega)

end Go.Vx

/- The program's own test whether returns are the same. -/
namespace Go.Vx
set_option linter.unusedVariables false
set_option linter.unusedSimpArgs false
open Go Go.Proofs
set_option linter.unusedSimpArgs false
set_option linter.unusedVariables false
set_option maxRecDepth 10000
set_option maxHeartbeats 4000000

/-- slices.Equal[[]excise/api.Value,excise/api.Value] -/
def c49 : AC :=
  .seq (.reg [⟨(some 4), none, .op (.mv (.c (.d (.bool false))) true)⟩]) <|
  .seq (.seq (.reg [⟨(some 6), none, .op (.mv (.t 0) false)⟩,
    ⟨(some 7), none, .op (.len (.t 6))⟩,
    ⟨(some 8), none, .op (.mv (.t 1) false)⟩,
    ⟨(some 9), none, .op (.len (.t 8))⟩,
    ⟨(some 10), none, .op (.bin .neq (.t 7) (.t 9))⟩]) <|
  .cond (.t 10) (.seq (.reg [⟨(some 4), none, .op (.mv (.c (.d (.bool false))) true)⟩]) <|
    .ret) (.skip)) <|
  .seq (.seq (.reg [⟨(some 11), none, .op (.mv (.t 0) false)⟩,
    ⟨(some 12), none, .op (.len (.t 11))⟩,
    ⟨(some 13), none, .op (.mv (.c (.d (.int .i64 0))) false)⟩]) <|
  .block 0 (
    .loop (
      .seq (.reg [⟨(some 14), none, .op (.bin .lss (.t 13) (.t 12))⟩]) <|
      .seq (.cond (.t 14) (.skip) (.exit 0)) <|
      .seq (.block 1 (
        .seq (.reg [⟨(some 15), none, .op (.mv (.t 13) false)⟩,
          ⟨(some 5), none, .op (.mv (.t 15) true)⟩]) <|
        .seq (.draw [⟨0, ⟨(some 16), none, .op (.mv (.t 0) false)⟩, []⟩,
          ⟨1, ⟨(some 17), none, .op (.mv (.t 5) false)⟩, []⟩,
          ⟨2, ⟨(some 18), none, .op (.ixs 10 (.t 16) (.t 17))⟩, [0, 1]⟩,
          ⟨3, ⟨(some 19), none, .op (.load true 10 (.t 18) false)⟩, [2, 0, 1]⟩,
          ⟨4, ⟨(some 20), none, .op (.mv (.t 1) false)⟩, []⟩,
          ⟨5, ⟨(some 21), none, .op (.mv (.t 5) false)⟩, []⟩,
          ⟨6, ⟨(some 22), none, .op (.ixs 10 (.t 20) (.t 21))⟩, [4, 5]⟩,
          ⟨7, ⟨(some 23), none, .op (.load true 10 (.t 22) false)⟩, [6, 4, 5]⟩,
          ⟨8, ⟨(some 24), none, .op (.eqs true [1, 0, 1, 1, 1, 1, 1, 0, 2, 1] (.t 19) (.t 23))⟩, [3, 2, 0, 1, 7, 6, 4, 5]⟩]) <|
        .cond (.t 24) (.seq (.reg [⟨(some 4), none, .op (.mv (.c (.d (.bool false))) true)⟩]) <|
          .ret) (.skip))) <|
      .reg [⟨(some 25), none, .op (.bin .add (.t 13) (.c (.d (.int .i64 1))))⟩,
        ⟨(some 13), none, .op (.mv (.t 25) false)⟩]))) <|
  .seq (.reg [⟨(some 4), none, .op (.mv (.c (.d (.bool true))) true)⟩]) <|
  .ret
theorem k49 : Tryd.f49.body.bind (comp Tryd.prog [] Tryd.f49.ntmps) = some c49 := by kernel_rfl
theorem r49 : cRes Tryd.prog Tryd.f49.results.toList = some [.t 4] := by kernel_rfl

theorem cs_slEqual {vs ws : List Val} {R : Out → Prop} (h : R (.ret [.d (.bool (decide (vs = ws)))] [] [])) :
    CS Tryd.prog 49 [.d (.sl 10 (vs.map encV)), .d (.sl 10 (ws.map encV))] [] [] R := by
  refine CS.go Tryd.func49 k49 r49 (by kernel_rfl) ?_
  unfold c49
  simp (maxSteps := 10000000) -dsimp only [go_sem, simprocAttr]
  refine kImp_intro (fun hl => ?_)
  simp (maxSteps := 10000000) -dsimp only [go_sem, simprocAttr]
  refine kImp_intro (fun hl2 => ?_)
  simp (maxSteps := 10000000) -dsimp only [go_sem, simprocAttr]
  refine kIf_intro (fun h1 => ?_) (fun h1 => ?_)
  · simp (maxSteps := 10000000) -dsimp only [go_sem, simprocAttr]
    exact retB h (by simp at h1; simp; rintro rfl; exact h1 rfl)
  have hlen : vs.length = ws.length := by simp at h1; omega
  simp (maxSteps := 10000000) -dsimp only [go_sem, simprocAttr]
  refine kImp_intro (fun _ => ?_)
  simp (maxSteps := 10000000) -dsimp only [go_sem, simprocAttr]
  refine kLoop_intro (loop_rule (ι := { i : Nat // i ≤ vs.length ∧ vs.take i = ws.take i }) (fun i => ⟨Tryd.f49.ntmps, 1000, [(13, .d (.int .i64 i.1)), (12, .d (.int .i64 vs.length)), (1, .d (.sl 10 (ws.map encV))), (0, .d (.sl 10 (vs.map encV)))], [], []⟩) (fun i => vs.length - i.1) ⟨0, by omega, rfl⟩ ?_ (fun _ => ⟨rfl, rfl⟩) ?_)
  · refine weak_mk ?_ ?_ ?_ ?_ ?_ <;> simp (maxSteps := 10000000) -dsimp only [go_sem, simprocAttr]
  rintro ⟨i, hi, heq⟩
  simp (maxSteps := 10000000) -dsimp only [go_sem, simprocAttr]
  refine kIf_intro (fun h2 => ?_) (fun h2 => ?_)
  · have hlt : i < vs.length := by simp at h2; omega
    obtain ⟨v, hv⟩ : ∃ v, vs[i]? = some v := ⟨_, List.getElem?_eq_getElem hlt⟩
    obtain ⟨w, hw⟩ : ∃ w, ws[i]? = some w := ⟨_, List.getElem?_eq_getElem (by omega : i < ws.length)⟩
    simp (maxSteps := 10000000) -dsimp only [go_sem, simprocAttr]
    refine kAnd_intro (by omega) ?_
    simp (maxSteps := 10000000) -dsimp only [go_sem, simprocAttr, getD_enc hv, encV]
    refine kAnd_intro (by omega) ?_
    simp (maxSteps := 10000000) -dsimp only [go_sem, simprocAttr, getD_enc hv, getD_enc hw, encV]
    have hvw : (v.kind == w.kind && (v.neg == w.neg && (v.n0 == w.n0 && (v.n1 == w.n1 && (v.n2 == w.n2 && (v.n3 == w.n3 && (v.scale == w.scale && (v.flag == w.flag && (v.text == w.text && v.err == w.err))))))))) = decide (v = w) := by
      cases v; cases w
      rw [Bool.eq_iff_iff]
      simp
    simp only [hvw]
    refine kIf_intro (fun h3 => ?_) (fun h3 => ?_)
    · simp (maxSteps := 10000000) -dsimp only [go_sem, simprocAttr]
      exact retB h (by
        simp at h3 ⊢
        rintro rfl
        rw [hv] at hw; cases hw; exact h3 rfl)
    · have : v = w := by simpa using h3
      subst this
      simp (maxSteps := 10000000) -dsimp only [go_sem, simprocAttr]
      refine ⟨⟨i + 1, hlt, by rw [List.take_add_one, List.take_add_one, heq, hv, hw]⟩, by show _ - (i + 1) < _ - i; omega, ?_⟩
      refine weak_mk ?_ ?_ ?_ ?_ ?_ <;> simp (maxSteps := 10000000) -dsimp only [go_sem, simprocAttr]
      rw [wrap_i64 (by omega) (by omega)]
      rfl
  · have : i = vs.length := by simp at h2; omega
    subst this
    simp (maxSteps := 10000000) -dsimp only [go_sem, simprocAttr]
    exact retB h (by rw [List.take_length, hlen, List.take_length] at heq; simp [heq])

/-- What the function does at two rows. -/
def SameC (f : Fil) : Prop := ∀ (g : Fil) (R : Out → Prop), R (.ret [.d (.bool (sameF f g))] [] []) →
  CS Tryd.prog 29 [.agg ((encF f).map .d), .agg ((encF g).map .d)] [] [] R

/-- slices.EqualFunc[[]excise/api.Filed,[]excise/api.Filed,excise/api.Filed,excise/api.Filed] -/
def c48 : AC :=
  .seq (.reg [⟨(some 6), none, .op (.mv (.c (.d (.bool false))) true)⟩]) <|
  .seq (.seq (.reg [⟨(some 10), none, .op (.mv (.t 0) false)⟩,
    ⟨(some 11), none, .op (.len (.t 10))⟩,
    ⟨(some 12), none, .op (.mv (.t 1) false)⟩,
    ⟨(some 13), none, .op (.len (.t 12))⟩,
    ⟨(some 14), none, .op (.bin .neq (.t 11) (.t 13))⟩]) <|
  .cond (.t 14) (.seq (.reg [⟨(some 6), none, .op (.mv (.c (.d (.bool false))) true)⟩]) <|
    .ret) (.skip)) <|
  .seq (.seq (.reg [⟨(some 15), none, .op (.mv (.t 0) false)⟩,
    ⟨(some 16), none, .op (.len (.t 15))⟩,
    ⟨(some 17), none, .op (.mv (.c (.d (.int .i64 0))) false)⟩]) <|
  .block 0 (
    .loop (
      .seq (.reg [⟨(some 18), none, .op (.bin .lss (.t 17) (.t 16))⟩]) <|
      .seq (.cond (.t 18) (.skip) (.exit 0)) <|
      .seq (.block 1 (
        .seq (.reg [⟨(some 19), none, .op (.mv (.t 17) false)⟩,
          ⟨(some 20), none, .op (.ixs 3 (.t 15) (.t 17))⟩,
          ⟨(some 21), none, .op (.load true 3 (.t 20) true)⟩,
          ⟨(some 8), none, .op (.alloc [.d (.sl 10 []), .d (.sl 10 []), .d (.sl 1 [])] [(0, 10), (1, 10), (2, 1)])⟩,
          ⟨(some 7), none, .op (.mv (.t 19) true)⟩,
          ⟨none, none, .op (.store 3 (.t 8) (.t 21))⟩]) <|
        .seq (.reg [⟨(some 22), none, .op (.mv (.t 1) false)⟩,
          ⟨(some 23), none, .op (.mv (.t 7) false)⟩,
          ⟨(some 24), none, .op (.ixs 3 (.t 22) (.t 23))⟩,
          ⟨(some 25), none, .op (.load true 3 (.t 24) true)⟩,
          ⟨(some 9), none, .op (.alloc [.d (.sl 10 []), .d (.sl 10 []), .d (.sl 1 [])] [(0, 10), (1, 10), (2, 1)])⟩,
          ⟨none, none, .op (.store 3 (.t 9) (.t 25))⟩]) <|
        .seq (.reg [⟨(some 26), none, .op (.mv (.t 2) false)⟩,
          ⟨(some 27), none, .op (.load true 3 (.t 8) false)⟩,
          ⟨(some 28), none, .op (.load true 3 (.t 9) false)⟩,
          ⟨(some 29), none, .callv (.t 26) [(.t 27), (.t 28)]⟩,
          ⟨(some 30), none, .op (.un .not (.t 29))⟩]) <|
        .cond (.t 30) (.seq (.reg [⟨(some 6), none, .op (.mv (.c (.d (.bool false))) true)⟩]) <|
          .ret) (.skip))) <|
      .reg [⟨(some 31), none, .op (.bin .add (.t 17) (.c (.d (.int .i64 1))))⟩,
        ⟨(some 17), none, .op (.mv (.t 31) false)⟩]))) <|
  .seq (.reg [⟨(some 6), none, .op (.mv (.c (.d (.bool true))) true)⟩]) <|
  .ret
theorem k48 : Tryd.f48.body.bind (comp Tryd.prog [] Tryd.f48.ntmps) = some c48 := by kernel_rfl
theorem r48 : cRes Tryd.prog Tryd.f48.results.toList = some [.t 6] := by kernel_rfl

theorem cs_eqF {r r' : List Fil} (hr : ∀ f, f ∈ r → SameC f) {R : Out → Prop} (h : R (.ret [.d (.bool (sameR r r'))] [] [])) :
    CS Tryd.prog 48 [.d (.sl 3 (encR r)), .d (.sl 3 (encR r')), .clo 29 []] [] [] R := by
  refine CS.go Tryd.func48 k48 r48 (by kernel_rfl) ?_
  unfold c48
  simp (maxSteps := 10000000) -dsimp only [go_sem, simprocAttr]
  refine kImp_intro (fun hl => ?_)
  simp (maxSteps := 10000000) -dsimp only [go_sem, simprocAttr]
  refine kImp_intro (fun hl2 => ?_)
  simp (maxSteps := 10000000) -dsimp only [go_sem, simprocAttr]
  refine kIf_intro (fun h1 => ?_) (fun h1 => ?_)
  · simp (maxSteps := 10000000) -dsimp only [go_sem, simprocAttr]
    exact retB h (sameR_ne (by simp only [bne_iff_ne, ne_eq] at h1; intro e; rw [e] at h1; exact h1 rfl))
  have hlen : r.length = r'.length := by simp only [bne_eq_false_iff_eq] at h1; omega
  simp (maxSteps := 10000000) -dsimp only [go_sem, simprocAttr]
  refine kImp_intro (fun _ => ?_)
  simp (maxSteps := 10000000) -dsimp only [go_sem, simprocAttr]
  refine kLoop_intro (loop_rule (ι := { i : Nat // i ≤ r.length ∧ sameR (r.drop i) (r'.drop i) = sameR r r' }) (fun i => ⟨Tryd.f48.ntmps, 1000,
    [(17, .d (.int .i64 i.1)), (16, .d (.int .i64 r.length)), (15, .d (.sl 3 (encR r))), (2, .clo 29 []), (1, .d (.sl 3 (encR r'))), (0, .d (.sl 3 (encR r)))], [], []⟩) (fun i => r.length - i.1) ⟨0, by omega, rfl⟩ ?_ (fun _ => ⟨rfl, rfl⟩) ?_)
  · refine weak_mk ?_ ?_ ?_ ?_ ?_ <;> simp (maxSteps := 10000000) -dsimp only [go_sem, simprocAttr]
  rintro ⟨i, hi, hinv⟩
  simp (maxSteps := 10000000) -dsimp only [go_sem, simprocAttr]
  refine kIf_intro (fun h2 => ?_) (fun h2 => ?_)
  · have hlt : i < r.length := by simpa using h2
    obtain ⟨f, hf⟩ : ∃ f, r[i]? = some f := ⟨_, List.getElem?_eq_getElem hlt⟩
    obtain ⟨f', hf'⟩ : ∃ f', r'[i]? = some f' := ⟨_, List.getElem?_eq_getElem (by omega : i < r'.length)⟩
    have hmf := List.mem_of_getElem? hf
    rw [drop_cons hf, drop_cons hf', sameR] at hinv
    obtain ⟨fv, fl, fk⟩ := f
    obtain ⟨fv', fl', fk'⟩ := f'
    simp (maxSteps := 10000000) -dsimp only [go_sem, simprocAttr]
    refine kAnd_intro (by omega) ?_
    simp (maxSteps := 10000000) -dsimp only [go_sem, simprocAttr, getD_encR hf, encF]
    refine kAnd_intro (by omega) ?_
    simp (maxSteps := 10000000) -dsimp only [go_sem, simprocAttr, getD_encR hf', encF]
    refine kAnd_intro ⟨_, Tryd.func29, rfl, by decide⟩ ?_
    simp (maxSteps := 10000000) -dsimp only [go_sem, simprocAttr]
    refine kCS_intro (hr _ hmf (.mk fv' fl' fk') _ ?_)
    cases hs : sameF (.mk fv fl fk) (.mk fv' fl' fk') with
    | false =>
      simp (maxSteps := 10000000) -dsimp only [go_sem, simprocAttr]
      exact retB h (by rw [← hinv, hs]; rfl)
    | true =>
      simp (maxSteps := 10000000) -dsimp only [go_sem, simprocAttr]
      refine ⟨⟨i + 1, hlt, by rw [← hinv, hs, Bool.true_and]⟩, by show _ - (i + 1) < _ - i; omega, ?_⟩
      refine weak_mk ?_ ?_ ?_ ?_ ?_ <;> simp (maxSteps := 10000000) -dsimp only [go_sem, simprocAttr]
      rw [wrap_i64 (by omega) (by omega)]
      rfl
  · have : i = r.length := by
      have : ¬ (i : Int) < r.length := by simpa using h2
      omega
    subst this
    rw [List.drop_length, hlen, List.drop_length, sameR] at hinv
    simp (maxSteps := 10000000) -dsimp only [go_sem, simprocAttr]
    exact retB h hinv.symm

/-- excise/efile.sameRow$1 -/
def c47 : AC :=
  .seq (.reg [⟨(some 4), none, .op (.mv (.c (.d (.bool false))) true)⟩]) <|
  .seq (.reg [⟨(some 5), none, .op (.mv (.t 0) false)⟩,
    ⟨(some 6), none, .op (.mv (.t 1) false)⟩,
    ⟨(some 7), none, .call 48 [(.t 5), (.t 6), (.c (.clo 29 []))] none⟩,
    ⟨(some 4), none, .op (.mv (.t 7) true)⟩]) <|
  .ret
theorem k47 : Tryd.f47.body.bind (comp Tryd.prog [] Tryd.f47.ntmps) = some c47 := by kernel_rfl
theorem r47 : cRes Tryd.prog Tryd.f47.results.toList = some [.t 4] := by kernel_rfl

theorem cs_sameRow1 {r r' : List Fil} (hr : ∀ f, f ∈ r → SameC f) {R : Out → Prop} (h : R (.ret [.d (.bool (sameR r r'))] [] [])) :
    CS Tryd.prog 47 [.d (.sl 3 (encR r)), .d (.sl 3 (encR r'))] [] [] R := by
  refine CS.go Tryd.func47 k47 r47 (by kernel_rfl) ?_
  unfold c47
  simp (maxSteps := 10000000) -dsimp only [go_sem, simprocAttr]
  refine kCS_intro (cs_eqF hr ?_)
  simp (maxSteps := 10000000) -dsimp only [go_sem, simprocAttr]
  exact h

/-- slices.EqualFunc[[][]excise/api.Filed,[][]excise/api.Filed,[]excise/api.Filed,[]excise/api.Filed] -/
def c50 : AC :=
  .seq (.reg [⟨(some 6), none, .op (.mv (.c (.d (.bool false))) true)⟩]) <|
  .seq (.seq (.reg [⟨(some 10), none, .op (.mv (.t 0) false)⟩,
    ⟨(some 11), none, .op (.len (.t 10))⟩,
    ⟨(some 12), none, .op (.mv (.t 1) false)⟩,
    ⟨(some 13), none, .op (.len (.t 12))⟩,
    ⟨(some 14), none, .op (.bin .neq (.t 11) (.t 13))⟩]) <|
  .cond (.t 14) (.seq (.reg [⟨(some 6), none, .op (.mv (.c (.d (.bool false))) true)⟩]) <|
    .ret) (.skip)) <|
  .seq (.seq (.reg [⟨(some 15), none, .op (.mv (.t 0) false)⟩,
    ⟨(some 16), none, .op (.len (.t 15))⟩,
    ⟨(some 17), none, .op (.mv (.c (.d (.int .i64 0))) false)⟩]) <|
  .block 0 (
    .loop (
      .seq (.reg [⟨(some 18), none, .op (.bin .lss (.t 17) (.t 16))⟩]) <|
      .seq (.cond (.t 18) (.skip) (.exit 0)) <|
      .seq (.block 1 (
        .seq (.reg [⟨(some 19), none, .op (.mv (.t 17) false)⟩,
          ⟨(some 20), none, .op (.ixs 1 (.t 15) (.t 17))⟩,
          ⟨(some 21), none, .op (.load false 1 (.t 20) false)⟩,
          ⟨(some 7), none, .op (.mv (.t 19) true)⟩,
          ⟨(some 8), none, .op (.mv (.t 21) true)⟩]) <|
        .seq (.reg [⟨(some 22), none, .op (.mv (.t 1) false)⟩,
          ⟨(some 23), none, .op (.mv (.t 7) false)⟩,
          ⟨(some 24), none, .op (.ixs 1 (.t 22) (.t 23))⟩,
          ⟨(some 25), none, .op (.load false 1 (.t 24) false)⟩,
          ⟨(some 9), none, .op (.mv (.t 25) true)⟩]) <|
        .seq (.reg [⟨(some 26), none, .op (.mv (.t 2) false)⟩,
          ⟨(some 27), none, .op (.mv (.t 8) false)⟩,
          ⟨(some 28), none, .op (.mv (.t 9) false)⟩,
          ⟨(some 29), none, .callv (.t 26) [(.t 27), (.t 28)]⟩,
          ⟨(some 30), none, .op (.un .not (.t 29))⟩]) <|
        .cond (.t 30) (.seq (.reg [⟨(some 6), none, .op (.mv (.c (.d (.bool false))) true)⟩]) <|
          .ret) (.skip))) <|
      .reg [⟨(some 31), none, .op (.bin .add (.t 17) (.c (.d (.int .i64 1))))⟩,
        ⟨(some 17), none, .op (.mv (.t 31) false)⟩]))) <|
  .seq (.reg [⟨(some 6), none, .op (.mv (.c (.d (.bool true))) true)⟩]) <|
  .ret
theorem k50 : Tryd.f50.body.bind (comp Tryd.prog [] Tryd.f50.ntmps) = some c50 := by kernel_rfl
theorem r50 : cRes Tryd.prog Tryd.f50.results.toList = some [.t 6] := by kernel_rfl

theorem cs_eqK {k k' : List (List Fil)} (hk : ∀ r, r ∈ k → ∀ f, f ∈ r → SameC f) {R : Out → Prop} (h : R (.ret [.d (.bool (sameK k k'))] [] [])) :
    CS Tryd.prog 50 [.d (.sl 1 (encK k)), .d (.sl 1 (encK k')), .clo 47 []] [] [] R := by
  refine CS.go Tryd.func50 k50 r50 (by kernel_rfl) ?_
  unfold c50
  simp (maxSteps := 10000000) -dsimp only [go_sem, simprocAttr]
  refine kImp_intro (fun hl => ?_)
  simp (maxSteps := 10000000) -dsimp only [go_sem, simprocAttr]
  refine kImp_intro (fun hl2 => ?_)
  simp (maxSteps := 10000000) -dsimp only [go_sem, simprocAttr]
  refine kIf_intro (fun h1 => ?_) (fun h1 => ?_)
  · simp (maxSteps := 10000000) -dsimp only [go_sem, simprocAttr]
    exact retB h (sameK_ne (by simp only [bne_iff_ne, ne_eq] at h1; intro e; rw [e] at h1; exact h1 rfl))
  have hlen : k.length = k'.length := by simp only [bne_eq_false_iff_eq] at h1; omega
  simp (maxSteps := 10000000) -dsimp only [go_sem, simprocAttr]
  refine kImp_intro (fun _ => ?_)
  simp (maxSteps := 10000000) -dsimp only [go_sem, simprocAttr]
  refine kLoop_intro (loop_rule (ι := { i : Nat // i ≤ k.length ∧ sameK (k.drop i) (k'.drop i) = sameK k k' }) (fun i => ⟨Tryd.f50.ntmps, 1000,
    [(17, .d (.int .i64 i.1)), (16, .d (.int .i64 k.length)), (15, .d (.sl 1 (encK k))), (2, .clo 47 []), (1, .d (.sl 1 (encK k'))), (0, .d (.sl 1 (encK k)))], [], []⟩) (fun i => k.length - i.1) ⟨0, by omega, rfl⟩ ?_ (fun _ => ⟨rfl, rfl⟩) ?_)
  · refine weak_mk ?_ ?_ ?_ ?_ ?_ <;> simp (maxSteps := 10000000) -dsimp only [go_sem, simprocAttr]
  rintro ⟨i, hi, hinv⟩
  simp (maxSteps := 10000000) -dsimp only [go_sem, simprocAttr]
  refine kIf_intro (fun h2 => ?_) (fun h2 => ?_)
  · have hlt : i < k.length := by simpa using h2
    obtain ⟨r, hr⟩ : ∃ r, k[i]? = some r := ⟨_, List.getElem?_eq_getElem hlt⟩
    obtain ⟨r', hr'⟩ : ∃ r', k'[i]? = some r' := ⟨_, List.getElem?_eq_getElem (by omega : i < k'.length)⟩
    have hmr := List.mem_of_getElem? hr
    rw [drop_cons hr, drop_cons hr', sameK] at hinv
    simp (maxSteps := 10000000) -dsimp only [go_sem, simprocAttr]
    refine kAnd_intro (by omega) ?_
    simp (maxSteps := 10000000) -dsimp only [go_sem, simprocAttr, getD_encK hr]
    refine kAnd_intro (by omega) ?_
    simp (maxSteps := 10000000) -dsimp only [go_sem, simprocAttr, getD_encK hr']
    refine kAnd_intro ⟨_, Tryd.func47, rfl, by decide⟩ ?_
    simp (maxSteps := 10000000) -dsimp only [go_sem, simprocAttr]
    refine kCS_intro (cs_sameRow1 (hk _ hmr) ?_)
    cases hs : sameR r r' with
    | false =>
      simp (maxSteps := 10000000) -dsimp only [go_sem, simprocAttr]
      exact retB h (by rw [← hinv, hs]; rfl)
    | true =>
      simp (maxSteps := 10000000) -dsimp only [go_sem, simprocAttr]
      refine ⟨⟨i + 1, hlt, by rw [← hinv, hs, Bool.true_and]⟩, by show _ - (i + 1) < _ - i; omega, ?_⟩
      refine weak_mk ?_ ?_ ?_ ?_ ?_ <;> simp (maxSteps := 10000000) -dsimp only [go_sem, simprocAttr]
      rw [wrap_i64 (by omega) (by omega)]
      rfl
  · have : i = k.length := by
      have : ¬ (i : Int) < k.length := by simpa using h2
      omega
    subst this
    rw [List.drop_length, hlen, List.drop_length, sameK] at hinv
    simp (maxSteps := 10000000) -dsimp only [go_sem, simprocAttr]
    exact retB h hinv.symm

/-- excise/efile.sameRow -/
def c29 : AC :=
  .seq (.reg [⟨(some 2), none, .op (.box 3 (.t 0))⟩,
    ⟨(some 3), none, .op (.box 3 (.t 1))⟩,
    ⟨(some 4), none, .op (.mv (.c (.d (.bool false))) true)⟩]) <|
  .seq (.reg [⟨(some 5), none, .op (.mv (.c (.clo 47 [])) true)⟩]) <|
  .seq (.reg [⟨(some 6), none, .op (.fa 0 (.t 2))⟩,
    ⟨(some 7), none, .op (.load false 1 (.t 6) false)⟩,
    ⟨(some 8), none, .op (.fa 0 (.t 3))⟩,
    ⟨(some 9), none, .op (.load false 1 (.t 8) false)⟩,
    ⟨(some 10), none, .call 49 [(.t 7), (.t 9)] none⟩,
    ⟨(some 11), none, .op (.mv (.t 10) false)⟩,
    ⟨(some 12), (some (11, true)), .op (.fa 1 (.t 2))⟩,
    ⟨(some 13), (some (11, true)), .op (.load false 1 (.t 12) false)⟩,
    ⟨(some 14), (some (11, true)), .op (.fa 1 (.t 3))⟩,
    ⟨(some 15), (some (11, true)), .op (.load false 1 (.t 14) false)⟩,
    ⟨(some 16), (some (11, true)), .call 49 [(.t 13), (.t 15)] none⟩,
    ⟨(some 17), none, .op (.pick (.t 11) (.t 16) (.c (.d (.bool false))))⟩,
    ⟨(some 18), none, .op (.mv (.t 17) false)⟩,
    ⟨(some 19), (some (18, true)), .op (.fa 2 (.t 2))⟩,
    ⟨(some 20), (some (18, true)), .op (.load false 1 (.t 19) false)⟩,
    ⟨(some 21), (some (18, true)), .op (.fa 2 (.t 3))⟩,
    ⟨(some 22), (some (18, true)), .op (.load false 1 (.t 21) false)⟩,
    ⟨(some 23), (some (18, true)), .op (.mv (.t 5) false)⟩,
    ⟨(some 24), (some (18, true)), .call 50 [(.t 20), (.t 22), (.t 23)] none⟩,
    ⟨(some 25), none, .op (.pick (.t 18) (.t 24) (.c (.d (.bool false))))⟩,
    ⟨(some 4), none, .op (.mv (.t 25) true)⟩]) <|
  .ret
theorem k29 : Tryd.f29.body.bind (comp Tryd.prog [] Tryd.f29.ntmps) = some c29 := by kernel_rfl
theorem r29 : cRes Tryd.prog Tryd.f29.results.toList = some [.t 4] := by kernel_rfl

theorem cs_sameRow' : ∀ f : Fil, SameC f := by
  refine Fil.ind (fun v l k ih => ?_)
  rintro ⟨v', l', k'⟩ R h
  refine CS.go Tryd.func29 k29 r29 (by kernel_rfl) ?_
  unfold c29
  simp (maxSteps := 10000000) -dsimp only [go_sem, simprocAttr, encF]
  refine kCS_intro (cs_slEqual ?_)
  cases h1 : decide (v = v') with
  | false =>
    simp (maxSteps := 10000000) -dsimp only [go_sem, simprocAttr]
    exact retB h (by simp [sameF, h1])
  | true =>
  simp (maxSteps := 10000000) -dsimp only [go_sem, simprocAttr]
  refine kCS_intro (cs_slEqual ?_)
  cases h2 : decide (l = l') with
  | false =>
    simp (maxSteps := 10000000) -dsimp only [go_sem, simprocAttr]
    exact retB h (by simp [sameF, h1, h2])
  | true =>
  simp (maxSteps := 10000000) -dsimp only [go_sem, simprocAttr]
  refine kCS_intro (cs_eqK ih ?_)
  simp (maxSteps := 10000000) -dsimp only [go_sem, simprocAttr]
  exact retB h (by simp [sameF, h1, h2])

/-- excise/efile.Same -/
def c16 : AC :=
  .seq (.reg [⟨(some 2), none, .op (.box 35 (.t 0))⟩,
    ⟨(some 3), none, .op (.box 35 (.t 1))⟩,
    ⟨(some 4), none, .op (.mv (.c (.d (.bool false))) true)⟩]) <|
  .seq (.reg [⟨(some 5), none, .op (.fa 0 (.t 2))⟩,
    ⟨(some 6), none, .op (.load true 32 (.t 5) false)⟩,
    ⟨(some 7), none, .op (.fa 0 (.t 3))⟩,
    ⟨(some 8), none, .op (.load true 32 (.t 7) false)⟩,
    ⟨(some 9), none, .op (.eqs false ks32 (.t 6) (.t 8))⟩,
    ⟨(some 10), none, .op (.mv (.t 9) false)⟩,
    ⟨(some 11), (some (10, true)), .op (.fa 32 (.t 2))⟩,
    ⟨(some 12), (some (10, true)), .op (.load true 3 (.t 11) false)⟩,
    ⟨(some 13), (some (10, true)), .op (.fa 32 (.t 3))⟩,
    ⟨(some 14), (some (10, true)), .op (.load true 3 (.t 13) false)⟩,
    ⟨(some 15), (some (10, true)), .call 29 [(.t 12), (.t 14)] none⟩,
    ⟨(some 16), none, .op (.pick (.t 10) (.t 15) (.c (.d (.bool false))))⟩,
    ⟨(some 4), none, .op (.mv (.t 16) true)⟩]) <|
  .ret
theorem k16 : Tryd.f16.body.bind (comp Tryd.prog [] Tryd.f16.ntmps) = some c16 := by kernel_rfl
theorem r16 : cRes Tryd.prog Tryd.f16.results.toList = some [.t 4] := by kernel_rfl

theorem cs_same' {dig dig' : List Int} (hd : dig.length = 32) (hd' : dig'.length = 32) {f g : Fil} {R : Out → Prop} (h : R (.ret [.d (.bool (decide (dig = dig') && sameF f g))] [] [])) :
    CS Tryd.prog 16 [.agg ((dig.map (D.int .u8) ++ encF f).map .d), .agg ((dig'.map (D.int .u8) ++ encF g).map .d)] [] [] R := by
  refine CS.go0 Tryd.func16 k16 r16 (by kernel_rfl) ?_
  unfold c16
  obtain ⟨v, l, k⟩ := f
  obtain ⟨v', l', k'⟩ := g
  have tk : ∀ (d : List Int) (e : List D), d.length = 32 → ((d.map (D.int .u8) ++ e).map A.d).take 32 = yc d := fun d e he => by
    rw [List.map_append, map_yc]; exact List.take_left' (by simp [he, yc])
  have dr : ∀ (d : List Int) (e : List D), d.length = 32 → ((d.map (D.int .u8) ++ e).map A.d).drop 32 = e.map A.d := fun d e he => by
    rw [List.map_append, map_yc]; exact List.drop_left' (by simp [he, yc])
  have a1 := tk dig (encF (.mk v l k)) hd
  have a2 := dr dig (encF (.mk v l k)) hd
  have a3 : ((dig.map (D.int .u8) ++ encF (.mk v l k)).map A.d).length = 35 := by simp [hd, encF]
  have b1 := tk dig' (encF (.mk v' l' k')) hd'
  have b2 := dr dig' (encF (.mk v' l' k')) hd'
  have b3 : ((dig'.map (D.int .u8) ++ encF (.mk v' l' k')).map A.d).length = 35 := by simp [hd', encF]
  generalize (dig.map (D.int .u8) ++ encF (.mk v l k)).map A.d = X at a1 a2 a3
  generalize (dig'.map (D.int .u8) ++ encF (.mk v' l' k')).map A.d = Y at b1 b2 b3
  simp (maxSteps := 10000000) -dsimp only [go_sem, simprocAttr, a1, a2, a3, b1, b2, b3, eq_ks hd hd', encF]
  refine kIf_intro (fun h1 => ?_) (fun h1 => ?_)
  · simp (maxSteps := 10000000) -dsimp only [go_sem, simprocAttr, a1, a2, a3, b1, b2, b3, encF]
    refine kCS_intro (cs_sameRow' (.mk v l k) (.mk v' l' k') _ ?_)
    simp (maxSteps := 10000000) -dsimp only [go_sem, simprocAttr]
    exact retB h (by rw [h1, Bool.true_and])
  · simp (maxSteps := 10000000) -dsimp only [go_sem, simprocAttr]
    exact retB h (by rw [h1, Bool.false_and])

end Go.Vx

/- What was put in. -/
namespace Go.Vx
set_option linter.unusedVariables false
set_option linter.unusedSimpArgs false
open Go Go.Proofs
set_option linter.unusedSimpArgs false
set_option linter.unusedVariables false
set_option maxRecDepth 10000
set_option maxHeartbeats 4000000

mutual
/-- A row as it was put in. -/
def instF : Fil → List D
  | .mk v _ k => [.sl 10 (v.map encV), .sl 1 (instK k)]
def instK : List (List Fil) → List (List D)
  | [] => []
  | r :: k => [.sl 2 (instR r)] :: instK k
def instR : List Fil → List (List D)
  | [] => []
  | f :: r => instF f :: instR r
end
theorem instR_eq : ∀ r : List Fil, instR r = r.map instF
  | [] => rfl
  | f :: r => by simp [instR, instR_eq r]
theorem instK_eq : ∀ k : List (List Fil), instK k = k.map (fun r => [.sl 2 (instR r)])
  | [] => rfl
  | r :: k => by simp [instK, instK_eq k]
theorem instR_take {r : List Fil} {j : Nat} {f : Fil} (h : r[j]? = some f) : instR (r.take (j + 1)) = instR (r.take j) ++ [instF f] := by
  rw [instR_eq, instR_eq, List.take_add_one, h]; simp
theorem instK_take {k : List (List Fil)} {i : Nat} {r : List Fil} (h : k[i]? = some r) : instK (k.take (i + 1)) = instK (k.take i) ++ [[.sl 2 (instR r)]] := by
  rw [instK_eq, instK_eq, List.take_add_one, h]; simp
theorem len_instR {r : List Fil} : (instR r).length = r.length := by rw [instR_eq]; simp
theorem len_instK {k : List (List Fil)} : (instK k).length = k.length := by rw [instK_eq]; simp
attribute [go_sem] len_instR len_instK

/-- Rows that can be gone through, with lists that memory bears. -/
inductive InF : Fil → Prop
  | mk (v l : List Val) (k : List (List Fil)) (h1 : v.length * 88 ≤ 140737488355328) (h2 : k.length ≤ 300) (h3 : ∀ r, r ∈ k → r.length ≤ 3000) (h4 : ∀ r, r ∈ k → ∀ f, f ∈ r → InF f) : InF (.mk v l k)

/-- slices.Clone[[]excise/api.Value,excise/api.Value] -/
def c30 : AC :=
  .seq (.reg [⟨(some 2), none, .op (.nil 10)⟩]) <|
  .seq (.seq (.reg [⟨(some 3), none, .op (.mv (.t 0) false)⟩,
    ⟨(some 4), none, .op (.isnil false 1 (.t 3))⟩]) <|
  .cond (.t 4) (.seq (.reg [⟨(some 2), none, .op (.nil 10)⟩]) <|
    .ret) (.skip)) <|
  .seq (.reg [⟨(some 5), none, .op (.bslc 10 0 [.int .i64 0, .bool false, .int .u64 0, .int .u64 0, .int .u64 0, .int .u64 0, .int .i64 0, .bool false, .str [], .int .i64 0] [])⟩,
    ⟨(some 6), none, .op (.mv (.t 0) false)⟩,
    ⟨(some 7), none, .op (.app 10 88 (.t 5) (.t 6))⟩,
    ⟨(some 2), none, .op (.mv (.t 7) true)⟩]) <|
  .ret
theorem k30 : Tryd.f30.body.bind (comp Tryd.prog [] Tryd.f30.ntmps) = some c30 := by kernel_rfl
theorem r30 : cRes Tryd.prog Tryd.f30.results.toList = some [.t 2] := by kernel_rfl

theorem kNil_intro {c : Nat} {es : List (List D)} {K : Bool → Prop} (h1 : es = [] → K true) (h2 : K false) : kNil 1 (.d (.sl c es)) K := ⟨h1, h2⟩

theorem cs_clone {es : List (List D)} (hs : es.length * 88 ≤ 140737488355328) {R : Out → Prop} (h : R (.ret [.d (.sl 10 es)] [] [])) :
    CS Tryd.prog 30 [.d (.sl 10 es)] [] [] R := by
  refine CS.go0 Tryd.func30 k30 r30 (by kernel_rfl) ?_
  unfold c30
  simp (maxSteps := 10000000) -dsimp only [go_sem, simprocAttr]
  refine kNil_intro (fun he => ?_) ?_
  · subst he
    simp (maxSteps := 10000000) -dsimp only [go_sem, simprocAttr]
    exact h
  · simp (maxSteps := 10000000) -dsimp only [go_sem, simprocAttr]
    refine kImp_intro (fun hl => ?_)
    simp (maxSteps := 10000000) -dsimp only [go_sem, simprocAttr]
    refine kAnd_intro (by omega) ?_
    simp (maxSteps := 10000000) -dsimp only [go_sem, simprocAttr]
    refine kAnd_intro (by omega) ?_
    simp (maxSteps := 10000000) -dsimp only [go_sem, simprocAttr]
    exact h

def InstC (f : Fil) : Prop := InF f → ∀ (R : Out → Prop), R (.ret [.agg ((instF f).map .d)] [] []) → CS Tryd.prog 18 [.agg ((encF f).map .d)] [] [] R

/-- excise/efile.Inst -/
def c18 : AC :=
  .seq (.reg [⟨(some 1), none, .op (.box 3 (.t 0))⟩,
    ⟨(some 2), none, .op (.alloc [.d (.sl 10 []), .d (.sl 1 [])] [(0, 10), (1, 1)])⟩]) <|
  .seq (.reg [⟨(some 9), none, .op (.fa 0 (.t 1))⟩,
    ⟨(some 10), none, .op (.load false 1 (.t 9) false)⟩,
    ⟨(some 11), none, .call 30 [(.t 10)] none⟩,
    ⟨(some 12), none, .op (.build [.nil 10, .nil 1] [(0, 1, (.t 11))])⟩,
    ⟨(some 3), none, .op (.alloc [.d (.sl 10 []), .d (.sl 1 [])] [(0, 10), (1, 1)])⟩,
    ⟨none, none, .op (.store 2 (.t 3) (.t 12))⟩]) <|
  .seq (.seq (.reg [⟨(some 13), none, .op (.fa 2 (.t 1))⟩,
    ⟨(some 14), none, .op (.load false 1 (.t 13) false)⟩,
    ⟨(some 15), none, .op (.len (.t 14))⟩,
    ⟨(some 16), none, .op (.mv (.c (.d (.int .i64 0))) false)⟩]) <|
  .block 0 (
    .loop (
      .seq (.reg [⟨(some 17), none, .op (.bin .lss (.t 16) (.t 15))⟩]) <|
      .seq (.cond (.t 17) (.skip) (.exit 0)) <|
      .seq (.block 1 (
        .seq (.reg [⟨(some 18), none, .op (.ixs 1 (.t 14) (.t 16))⟩,
          ⟨(some 19), none, .op (.load false 1 (.t 18) false)⟩,
          ⟨(some 5), none, .op (.mv (.t 19) true)⟩]) <|
        .seq (.reg [⟨(some 6), none, .op (.nil 2)⟩]) <|
        .seq (.seq (.reg [⟨(some 20), none, .op (.mv (.t 5) false)⟩,
          ⟨(some 21), none, .op (.len (.t 20))⟩,
          ⟨(some 22), none, .op (.mv (.c (.d (.int .i64 0))) false)⟩]) <|
        .block 2 (
          .loop (
            .seq (.reg [⟨(some 23), none, .op (.bin .lss (.t 22) (.t 21))⟩]) <|
            .seq (.cond (.t 23) (.skip) (.exit 2)) <|
            .seq (.block 3 (
              .seq (.reg [⟨(some 24), none, .op (.ixs 3 (.t 20) (.t 22))⟩,
                ⟨(some 25), none, .op (.load true 3 (.t 24) true)⟩,
                ⟨(some 8), none, .op (.alloc [.d (.sl 10 []), .d (.sl 10 []), .d (.sl 1 [])] [(0, 10), (1, 10), (2, 1)])⟩,
                ⟨none, none, .op (.store 3 (.t 8) (.t 25))⟩]) <|
              .reg [⟨(some 26), none, .op (.mv (.t 6) true)⟩,
                ⟨(some 27), none, .op (.load true 3 (.t 8) false)⟩,
                ⟨(some 28), none, .call 18 [(.t 27)] none⟩,
                ⟨(some 29), none, .op (.bslc 2 1 [.sl 10 [], .sl 1 []] [(0, 2, (.t 28))])⟩,
                ⟨(some 30), none, .op (.app 2 48 (.t 26) (.t 29))⟩,
                ⟨(some 6), none, .op (.mv (.t 30) true)⟩])) <|
            .reg [⟨(some 31), none, .op (.bin .add (.t 22) (.c (.d (.int .i64 1))))⟩,
              ⟨(some 22), none, .op (.mv (.t 31) false)⟩]))) <|
        .reg [⟨(some 32), none, .op (.fa 1 (.t 3))⟩,
          ⟨(some 33), none, .op (.load false 1 (.t 32) true)⟩,
          ⟨(some 34), none, .op (.mv (.t 6) false)⟩,
          ⟨(some 35), none, .op (.bslc 1 1 [.sl 2 []] [(0, 1, (.t 34))])⟩,
          ⟨(some 36), none, .op (.app 1 24 (.t 33) (.t 35))⟩,
          ⟨(some 37), none, .op (.fa 1 (.t 3))⟩,
          ⟨none, none, .op (.store 1 (.t 37) (.t 36))⟩])) <|
      .reg [⟨(some 38), none, .op (.bin .add (.t 16) (.c (.d (.int .i64 1))))⟩,
        ⟨(some 16), none, .op (.mv (.t 38) false)⟩]))) <|
  .seq (.reg [⟨(some 39), none, .op (.load true 2 (.t 3) true)⟩,
    ⟨none, none, .op (.store 2 (.t 2) (.t 39))⟩]) <|
  .ret
theorem k18 : Tryd.f18.body.bind (comp Tryd.prog [] Tryd.f18.ntmps) = some c18 := by kernel_rfl
theorem r18 : cRes Tryd.prog Tryd.f18.results.toList = some [.c 2 true 2] := by kernel_rfl

theorem cs_inst : ∀ f : Fil, InstC f := by
  refine Fil.ind (fun v l k ih => ?_)
  intro hin R h
  obtain ⟨_, _, _, hv, hk, hr, hf⟩ := hin
  refine CS.go0 Tryd.func18 k18 r18 (by kernel_rfl) ?_
  unfold c18
  simp (maxSteps := 10000000) -dsimp only [go_sem, simprocAttr, encF]
  refine kCS_intro (cs_clone (by rw [List.length_map]; exact hv) ?_)
  simp (maxSteps := 10000000) -dsimp only [go_sem, simprocAttr]
  refine kImp_intro (fun hl => ?_)
  simp (maxSteps := 10000000) -dsimp only [go_sem, simprocAttr]
  refine kLoop_intro (loop_rule (ι := { i : Nat // i ≤ k.length }) (fun i => ⟨Tryd.f18.ntmps, 1000, [(16, .d (.int .i64 i.1)), (15, .d (.int .i64 k.length)), (14, .d (.sl 1 (encK k))), (3, .ptr 1003 0), (2, .ptr 1002 0)],
    [(1003, [.d (.sl 10 (v.map encV)), .d (.sl 1 (instK (k.take i.1)))]), (1002, [.d (.sl 10 []), .d (.sl 1 [])])], [(.b 1003 1, 1)]⟩) (fun i => k.length - i.1) ⟨0, by omega⟩ ?_ (fun _ => ⟨rfl, rfl⟩) ?_)
  · refine weak_mk ?_ ?_ ?_ ?_ ?_ <;> simp (maxSteps := 10000000) -dsimp only [go_sem, simprocAttr, instK, List.take_zero]
  rintro ⟨i, hi⟩
  simp (maxSteps := 10000000) -dsimp only [go_sem, simprocAttr]
  refine kIf_intro (fun h1 => ?_) (fun h1 => ?_)
  · have hlt : i < k.length := by simpa using h1
    obtain ⟨r, hv⟩ : ∃ r, k[i]? = some r := ⟨_, List.getElem?_eq_getElem hlt⟩
    have hmr := List.mem_of_getElem? hv
    have hrl := hr r hmr
    simp (maxSteps := 10000000) -dsimp only [go_sem, simprocAttr]
    refine kAnd_intro (by omega) ?_
    simp (maxSteps := 10000000) -dsimp only [go_sem, simprocAttr, getD_encK hv]
    refine kImp_intro (fun hl2 => ?_)
    simp (maxSteps := 10000000) -dsimp only [go_sem, simprocAttr]
    refine kLoop_intro (loop_rule (ι := { j : Nat // j ≤ r.length }) (fun j => ⟨Tryd.f18.ntmps, 1000, [(22, .d (.int .i64 j.1)), (21, .d (.int .i64 r.length)), (20, .d (.sl 3 (encR r))), (6, .d (.sl 2 (instR (r.take j.1)))),
      (16, .d (.int .i64 i)), (15, .d (.int .i64 k.length)), (14, .d (.sl 1 (encK k))), (3, .ptr 1003 0), (2, .ptr 1002 0)],
      [(1003, [.d (.sl 10 (v.map encV)), .d (.sl 1 (instK (k.take i)))]), (1002, [.d (.sl 10 []), .d (.sl 1 [])])], [(.t 6, 2), (.b 1003 1, 1)]⟩) (fun j => r.length - j.1) ⟨0, by omega⟩ ?_ (fun _ => ⟨rfl, rfl⟩) ?_)
    · refine weak_mk ?_ ?_ ?_ ?_ ?_ <;> simp (maxSteps := 10000000) -dsimp only [go_sem, simprocAttr, instR, List.take_zero]
    rintro ⟨j, hj⟩
    simp (maxSteps := 10000000) -dsimp only [go_sem, simprocAttr]
    refine kIf_intro (fun h2 => ?_) (fun h2 => ?_)
    · have hjt : j < r.length := by simpa using h2
      obtain ⟨f, hf'⟩ : ∃ f, r[j]? = some f := ⟨_, List.getElem?_eq_getElem hjt⟩
      have hmf := List.mem_of_getElem? hf'
      have hin := hf r hmr f hmf
      obtain ⟨fv, fl, fk⟩ := f
      simp (maxSteps := 10000000) -dsimp only [go_sem, simprocAttr]
      refine kAnd_intro (by omega) ?_
      simp (maxSteps := 10000000) -dsimp only [go_sem, simprocAttr, getD_encR hf', encF]
      refine kCS_intro (ih r hmr _ hmf hin _ ?_)
      simp (maxSteps := 10000000) -dsimp only [go_sem, simprocAttr, instF]
      refine kImp_intro (fun hl3 => ?_)
      simp (maxSteps := 10000000) -dsimp only [go_sem, simprocAttr]
      refine kAnd_intro (by rw [List.length_take] at *; omega) ?_
      simp (maxSteps := 10000000) -dsimp only [go_sem, simprocAttr]
      refine kAnd_intro (by rw [List.length_take] at *; omega) ?_
      simp (maxSteps := 10000000) -dsimp only [go_sem, simprocAttr]
      refine ⟨⟨j + 1, hjt⟩, by show _ - (j + 1) < _ - j; omega, ?_⟩
      refine weak_mk ?_ ?_ ?_ ?_ ?_ <;> simp (maxSteps := 10000000) -dsimp only [go_sem, simprocAttr]
      rw [wrap_i64 (by omega) (by omega)]
      exact ⟨rfl, by rw [instR_take hf', instF]⟩
    · have : j = r.length := by
        have : ¬ (j : Int) < r.length := by simpa using h2
        omega
      subst this
      simp (maxSteps := 10000000) -dsimp only [go_sem, simprocAttr, List.take_length]
      refine kImp_intro (fun hl4 => ?_)
      simp (maxSteps := 10000000) -dsimp only [go_sem, simprocAttr, List.take_length]
      refine kAnd_intro (by rw [List.length_take] at *; omega) ?_
      simp (maxSteps := 10000000) -dsimp only [go_sem, simprocAttr, List.take_length]
      refine kAnd_intro (by rw [List.length_take] at *; omega) ?_
      simp (maxSteps := 10000000) -dsimp only [go_sem, simprocAttr, List.take_length]
      refine ⟨⟨i + 1, hlt⟩, by show _ - (i + 1) < _ - i; omega, ?_⟩
      refine weak_mk ?_ ?_ ?_ ?_ ?_ <;> simp (maxSteps := 10000000) -dsimp only [go_sem, simprocAttr]
      · rw [instK_take hv]
      · rw [wrap_i64 (by omega) (by omega)]; rfl
  · have : i = k.length := by
      have : ¬ (i : Int) < k.length := by simpa using h1
      omega
    subst this
    simp (maxSteps := 10000000) -dsimp only [go_sem, simprocAttr, List.take_length]
    exact h

end Go.Vx
