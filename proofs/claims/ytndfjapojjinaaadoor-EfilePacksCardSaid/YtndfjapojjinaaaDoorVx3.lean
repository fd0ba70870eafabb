/- Contracts out of conditions. -/
import Derived.Test.YtndfjapojjinaaaDoorVx2
import Derived.Recover
import GoSem.ClaimJoined
import Derived.OpenShut
import Derived.Deep.DeepHandedRow
namespace Go.Vx
set_option linter.unusedVariables false
set_option linter.unusedSimpArgs false
open Go

inductive RV where
  | t (i : Nat)
  | c (i : Nat) (ag : Bool) (n : Nat)

def cRes (P : Program) : List ResultVar → Option (List RV)
  | [] => some []
  | .tmp t :: r => (cRes P r).map (.t t :: ·)
  | .cell a t :: r => match tyAgg P t, tySize P t, cRes P r with
    | some ag, some n, some l => some (.c a ag n :: l)
    | _, _, _ => none

def vcRes (s : St) : List RV → (List A → Prop) → Prop
  | [], K => K []
  | .t i :: r, K => vcRes s r (fun l => K (look i s.t :: l))
  | .c i ag n :: r, K => match look i s.t with
    | .ptr m o => match lookB m s.bx with
      | some cs => match ag with
        | true => o + n ≤ cs.length ∧ vcRes s r (fun l => K (.agg ((cs.drop o).take n) :: l))
        | false => ∃ a, cs[o]? = some a ∧ vcRes s r (fun l => K (a :: l))
      | none => False
    | _ => False

def resOps : List RV → List Opd
  | [] => []
  | .t i :: r => .t i :: resOps r
  | .c _ _ _ :: r => .c .any :: resOps r

/-- Which result is owned (one at most). -/
def resPo (own : List (Loc × Nat)) : Nat → List RV → Option Nat
  | _, [] => none
  | i, .t j :: r => match ownOf j own with
    | some _ => some i
    | none => resPo own (i + 1) r
  | i, .c _ _ _ :: r => resPo own (i + 1) r

def idOld : List (Nat × List A) → List (Nat × Nat)
  | [] => []
  | (n, _) :: r => bif Nat.blt n KB then (n, n) :: idOld r else idOld r

def idRef : List A → List (Nat × Nat)
  | [] => []
  | .ptr m _ :: r => (m, m) :: idRef r
  | _ :: r => idRef r

def vcFin (rs : List RV) (s : St) (R : Out → Prop) : Prop :=
  vcRes s rs (fun res => match renL (idOld s.bx ++ idRef res) res, passB (idOld s.bx ++ idRef res) s.bx (idOld s.bx ++ idRef res) with
    | some res', some bx' => R (.ret res' bx' (passT (resPo s.own 0 rs) s.own (resOps rs) ++ passOB (idOld s.bx ++ idRef res) s.own))
    | _, _ => False)

def vcPan (x : D) (s : St) (R : Out → Prop) : Prop :=
  match passB (idOld s.bx) s.bx (idOld s.bx) with
  | some bx' => R (.pan x bx')
  | none => False

/-- A function's end. -/
def fnPost (rs : List RV) (R : Out → Prop) : AX → St → Prop
  | .normal, s => vcFin rs s R
  | .ret, s => vcFin rs s R
  | .panic x, s => vcPan x s R
  | .exit _, _ => False
  | .goto _, _ => False

theorem idList {l : List (Nat × Nat)} (h : ∀ p, p ∈ l → p.1 = p.2) : (∀ m n, findN l m = some n → n = m) ∧ flipN l = l := by
  induction l with
  | nil => exact ⟨fun m n h => by simp [findN] at h, rfl⟩
  | cons p r ih =>
    obtain ⟨a, b⟩ := p
    obtain ⟨i1, i2⟩ := ih (fun p hp => h p (.tail _ hp))
    have e : a = b := h _ (.head _)
    subst e
    refine ⟨?_, by simp [flipN, i2]⟩
    intro m n hm
    rw [findN_cons] at hm
    split at hm
    · rename_i e; cases hm; exact e.symm
    · exact i1 m n hm

theorem idOld_id : ∀ (bx : List (Nat × List A)) p, p ∈ idOld bx → p.1 = p.2 := by
  intro bx
  induction bx with
  | nil => intro p h; cases h
  | cons q r ih =>
    obtain ⟨n, cs⟩ := q
    intro p h
    cases hb : Nat.blt n KB with
    | true =>
      simp only [idOld, hb, cond_true, List.mem_cons] at h
      rcases h with rfl | h
      · rfl
      · exact ih p h
    | false => simp only [idOld, hb, cond_false] at h; exact ih p h

theorem idRef_id : ∀ (l : List A) p, p ∈ idRef l → p.1 = p.2 := by
  intro l
  induction l with
  | nil => intro p h; cases h
  | cons x r ih =>
    intro p h
    cases x <;> simp only [idRef] at h <;> (try exact ih p h)
    rcases List.mem_cons.1 h with rfl | h
    · rfl
    · exact ih p h

theorem idOld_has : ∀ (bx : List (Nat × List A)) (n : Nat) cs, lookB n bx = some cs → n < KB → ∃ m, findN (idOld bx) n = some m := by
  intro bx
  induction bx with
  | nil => intro n cs h; simp [lookB] at h
  | cons q r ih =>
    obtain ⟨m, ds⟩ := q
    intro n cs h hn
    rw [lookB_cons] at h
    split at h
    · rename_i e
      subst e
      have hb : Nat.blt n KB = true := by rw [Nat.blt_eq]; exact hn
      simp only [idOld, hb, cond_true, findN_cons, if_true]
      exact ⟨_, rfl⟩
    · rename_i e
      obtain ⟨q, hq⟩ := ih n cs h hn
      cases hb : Nat.blt m KB with
      | true => simp only [idOld, hb, cond_true, findN_cons, if_neg e]; exact ⟨q, hq⟩
      | false => simp only [idOld, hb, cond_false]; exact ⟨q, hq⟩

section
variable {P : Program} {X : Ctx} {σ : Store} {β : Names} {s : St} {a : Act} {w : World}

/-- Fewer blocks are foreign. -/
theorem Rel.lessX {Y : Ctx} (h : Rel X σ β s a w) (hdf : X.df = Y.df) (hy : ∀ b, Y b → X b) : Rel Y σ β s a w := by
  refine ⟨h.size, h.defs.trans hdf, h.tmp, h.st, fun b hb => h.xs b (hy b hb), ?_, h.dom, h.inj, ?_, h.sep⟩
  · intro n cs hn
    obtain ⟨b, arr, T, fz, h1, h2, h3, h4, h5, h6, h7⟩ := h.box n cs hn
    exact ⟨b, arr, T, fz, h1, h2, h3, h4, fun hb => h5 (hy b hb), h6, h7⟩
  · intro l c hl
    obtain ⟨v, hv, ho⟩ := h.own l c hl
    refine ⟨v, hv, ?_⟩
    intro b off len cap e hlt
    obtain ⟨k1, k2, k3, k4⟩ := ho b off len cap e hlt
    exact ⟨k1, k2, fun hb => k3 (hy b hb), k4⟩

def resG (tmps : Array Value) (r : ResultVar) : Sem Value := match r with
  | .tmp t => pure (tmps.getD t undef)
  | .cell b t => do loadVar t (← asAddr (tmps.getD b undef))

theorem res_run (h : Rel X σ β s a w) : ∀ (rv : List ResultVar) (rs : List RV) (K : List A → Prop), cRes P rv = some rs → vcRes s rs K →
    ∃ (res : List A) (vs : List Value), K res ∧ res.length = vs.length ∧ vs.length = rs.length ∧ (∀ i x, res[i]? = some x → RA σ β x (vs.getD i undef)) ∧
      (∀ (i j : Nat), (resOps rs)[i]? = some (Opd.t j) → vs.getD i undef = a.tmps.getD j undef) ∧
      (rv.mapM (m := Sem) (resG a.tmps)).run P w = .ok vs w := by
  intro rv
  induction rv with
  | nil =>
    intro rs K hc hv
    simp only [cRes, Option.some.injEq] at hc
    subst hc
    exact ⟨[], [], hv, rfl, rfl, by simp, by simp [resOps], by simp⟩
  | cons r rv ih =>
    intro rs K hc hv
    cases r with
    | tmp t =>
      simp only [cRes] at hc
      obtain ⟨rs', hrs, hq⟩ := Option.map_eq_some_iff.1 hc
      subst hq
      obtain ⟨res, vs, k1, k2, k3, k4, k5, k6⟩ := ih rs' _ hrs hv
      refine ⟨look t s.t :: res, a.tmps.getD t undef :: vs, k1, by simp [k2], by simp [k3], ?_, ?_, ?_⟩
      · intro i x hx
        cases i with
        | zero => simp only [List.getElem?_cons_zero, Option.some.injEq] at hx; subst hx; exact h.tmp t
        | succ i => exact k4 i x (by simpa using hx)
      · intro i j hj
        cases i with
        | zero => simp only [resOps, List.getElem?_cons_zero, Option.some.injEq, Opd.t.injEq] at hj; subst hj; rfl
        | succ i => exact k5 i j (by simpa [resOps] using hj)
      · rw [List.mapM_cons]
        have hG : (resG a.tmps (.tmp t)).run P w = .ok (a.tmps.getD t undef) w := rfl
        simp only [Sem.run_bind, hG, Result.andThen_ok, Sem.run_pure, k6]
    | cell b t =>
      simp only [cRes] at hc
      split at hc
      · rename_i ag n rs' ha hs hrs
        simp only [Option.some.injEq] at hc
        subst hc
        simp only [vcRes] at hv
        split at hv
        · rename_i m o hlk
          have hRA := h.tmp b
          rw [hlk] at hRA
          obtain ⟨blk, hb, hval⟩ := ra_ptr hRA
          split at hv
          · rename_i cs hcs
            obtain ⟨b', arr, T, fz, hb', hh, hsz, hr, hxx, hσ, hf⟩ := h.box m cs hcs
            rw [hb] at hb'; cases hb'
            have fin : ∀ (x : A) (v : Value), RA σ β x v → (loadVar t ⟨blk, o, none⟩).run P w = .ok v w → vcRes s rs' (fun l => K (x :: l)) → ∃ (res : List A) (vs : List Value), K res ∧ res.length = vs.length ∧ vs.length = (RV.c b ag n :: rs').length ∧ (∀ i x, res[i]? = some x → RA σ β x (vs.getD i undef)) ∧
                (∀ (i j : Nat), (resOps (RV.c b ag n :: rs'))[i]? = some (Opd.t j) → vs.getD i undef = a.tmps.getD j undef) ∧
                ((ResultVar.cell b t :: rv).mapM (m := Sem) (resG a.tmps)).run P w = .ok vs w := by
              intro x v hx hrun hK
              obtain ⟨res, vs, k1, k2, k3, k4, k5, k6⟩ := ih rs' _ hrs hK
              refine ⟨x :: res, v :: vs, k1, by simp [k2], by simp [k3], ?_, ?_, ?_⟩
              · intro i y hy
                cases i with
                | zero => simp only [List.getElem?_cons_zero, Option.some.injEq] at hy; subst hy; exact hx
                | succ i => exact k4 i y (by simpa using hy)
              · intro i j hj
                cases i with
                | zero => simp [resOps] at hj
                | succ i => exact k5 i j (by simpa [resOps] using hj)
              · have hasA : (asAddr (a.tmps.getD b undef)).run P w = .ok ⟨blk, o, none⟩ w := by rw [hval]; rfl
                have hG : (resG a.tmps (.cell b t)).run P w = .ok v w := by
                  simp only [resG, Sem.run_bind, hasA, Result.andThen_ok, hrun]
                rw [List.mapM_cons]
                simp only [Sem.run_bind, hG, Result.andThen_ok, Sem.run_pure, k6]
            have hload := fun v (h : (Instr.loadAt t (.pointer (some ⟨blk, o, none⟩))).run P w = .ok v w) => (show (loadVar t ⟨blk, o, none⟩).run P w = .ok v w by
              simp only [Instr.loadAt, Instr.sureAddr, Sem.run_bind, Sem.run_pure, Result.andThen_ok] at h; exact h)
            cases ag with
            | true =>
              simp only at hv
              obtain ⟨hle, hK⟩ := hv
              have hex : ((arr.toList.drop o).take n).length = n := by simp; omega
              refine fin _ _ ?_ (hload _ (run_loadAt_agg (P := P) (w := w) (b := blk) (off := o) (vs := (arr.toList.drop o).take n) ha hs hex (fun j v hj => by
                rw [cell_of_block hh]
                rw [List.getElem?_take] at hj
                split at hj
                · rw [List.getElem?_drop] at hj; simpa using hj
                · cases hj))) hK
              refine .agg _ _ (by simp; omega) ?_
              intro i x hx
              rw [List.getElem?_take] at hx
              split at hx
              · rename_i hi
                rw [List.getElem?_drop] at hx
                have := hr _ _ hx
                have e : (((arr.toList.drop o).take n).toArray).getD i undef = arr.getD (o + i) undef := by
                  rw [Array.getD_eq_getD_getElem?, Array.getD_eq_getD_getElem?]
                  simp only [List.getElem?_toArray, List.getElem?_take, if_pos hi, List.getElem?_drop, Array.getElem?_toList]
                rw [e]; exact this
              · cases hx
            | false =>
              simp only at hv
              obtain ⟨y, hy, hK⟩ := hv
              have hlt := lt_of_getElem? hy
              have hcell : w.cell? ⟨blk, o, none⟩ = some (arr.getD o undef) := by rw [cell_of_block hh]; exact getElem?_of_getD (by omega)
              exact fin _ _ (hr _ _ hy) (hload _ (run_loadAt_one (P := P) ha hcell)) hK
          · exact hv.elim
        · exact hv.elim
      · cases hc

theorem resOps_len : ∀ (rs : List RV), (resOps rs).length = rs.length := by
  intro rs
  induction rs with
  | nil => rfl
  | cons r rs ih => cases r <;> simp [resOps, ih]

/-- A CONTRACT OUT OF ITS CONDITION. -/
theorem CS.of_tr {f : FuncId} {fn : Func} {code : Code} {c : AC} {ows : List (FuncId × Nat)} {rs : List RV} {args : List A} {bx : List (Nat × List A)} {own : List (Loc × Nat)} {R : Out → Prop}
    (hf : P.funcs[f]? = some fn) (hb : fn.body = some code) (hc : comp P ows fn.ntmps code = some c) (hrs : cRes P fn.results.toList = some rs) (hn : args.length ≤ fn.ntmps)
    (hT : Tr P code { n := fn.ntmps, k := KB, t := enumA 0 args, bx, own } (fun ax s => ∃ s', Weak s s' ∧ fnPost rs R ax s')) : CS P f args bx own R := by
  intro X σ β w vals hrel
  have hvs : vals.size = args.length := hrel.size
  have hentry : Rel X σ β { n := fn.ntmps, k := KB, t := enumA 0 args, bx, own } ⟨vals ++ Array.replicate (fn.ntmps - vals.size) undef, []⟩ w := by
    have hloc : ∀ l, (∃ c, (l, c) ∈ own) → locVal β ⟨vals ++ Array.replicate (fn.ntmps - vals.size) undef, []⟩ w l = locVal β ⟨vals, []⟩ w l ∨ ∃ i, l = .t i ∧ vals.size ≤ i := by
      intro l _
      cases l with
      | t i =>
        by_cases hi : i < vals.size
        · left
          simp only [locVal]
          rw [Array.getD_eq_getD_getElem?, Array.getD_eq_getD_getElem?, Array.getElem?_append_left hi]
        · exact .inr ⟨i, rfl, by omega⟩
      | b n o => exact .inl rfl
    have hget : ∀ i, (vals ++ Array.replicate (fn.ntmps - vals.size) undef).getD i undef = vals.getD i undef := by
      intro i
      rw [Array.getD_eq_getD_getElem?, Array.getD_eq_getD_getElem?]
      by_cases hi : i < vals.size
      · rw [Array.getElem?_append_left hi]
      · rw [Array.getElem?_append_right (by omega), Array.getElem?_eq_none (by omega : vals.size ≤ i)]
        rw [Array.getElem?_replicate]
        split <;> rfl
    have hloc' : ∀ l, locVal β ⟨vals ++ Array.replicate (fn.ntmps - vals.size) undef, []⟩ w l = locVal β ⟨vals, []⟩ w l := by
      intro l
      cases l with
      | t i => simp only [locVal, hget]
      | b n o => rfl
    refine ⟨by simp [hvs]; omega, hrel.defs, fun i => by rw [hget]; exact hrel.tmp i, hrel.st, hrel.xs, hrel.box, hrel.dom, hrel.inj, ?_, ?_⟩
    · intro l c hl
      obtain ⟨v, hv, ho⟩ := hrel.own l c hl
      exact ⟨v, (hloc' l).trans hv, ho⟩
    · intro l c l' c' hl hl' hne v v' b hv hv'
      rw [hloc'] at hv hv'
      exact hrel.sep l c l' c' hl hl' hne v v' b hv hv'
  refine calls_of_wp hf hb ?_
  refine wp_mono (hT X σ β _ w hentry) ?_
  rintro e a' w' ⟨ax, s0, σ0, β0, ⟨s', hweak, q⟩, q10, q20, ex, r0, st0⟩
  obtain ⟨hk1, hk2, hweak⟩ := hweak
  obtain ⟨σ', β', r, st1⟩ := hweak _ _ _ _ _ r0
  have q1 : s'.n = fn.ntmps := hk1.trans q10
  have q2 : s'.k = KB := hk2.trans q20
  have st : Step X KB σ β w σ' β' w' := st0.trans (by rw [q20] at st1; exact st1)
  replace ex : ExRel σ' ax e := by
    cases ax <;> cases e <;> simp only [ExRel] at ex ⊢ <;> first | exact ex | trivial | (obtain ⟨v, e1, hr⟩ := ex; exact ⟨v, e1, hr.mono st1.le⟩)
  -- the end with results
  have ends : vcFin rs s' R → a'.defers = [] ∧ ∃ v, (results fn a'.tmps).run P w' = .ok v w' ∧ ∃ o σ2 β2, R o ∧ OutRel X σ2 β2 w' o (.returned v) ∧ Step X KB σ β w σ2 β2 w' := by
    intro hfin
    refine ⟨r.defs.trans hrel.defs.symm, ?_⟩
    obtain ⟨res, vs, hk, h1, h2, h3, h4, h5⟩ := res_run (P := P) r _ rs _ hrs hfin
    split at hk
    · rename_i res' bx' hren hpass
      have hid : ∀ p, p ∈ idOld s'.bx ++ idRef res → p.1 = p.2 := fun p hp => by
        rcases List.mem_append.1 hp with hp | hp
        · exact idOld_id _ p hp
        · exact idRef_id _ p hp
      obtain ⟨d1, d2⟩ := idList hid
      have hin := call_in r (args := res) (ops := resOps rs) (po := resPo s'.own 0 rs) (vals := vs.toArray) (idOld s'.bx ++ idRef res) (fun m n hm => by rw [d2]; have := d1 m n hm; subst this; exact hm) (fun m n hm => by rw [d2] at hm; have := d1 n m hm; subst this; exact hm) hren hpass
        (by simp [h1]) (fun i x hx => by have := h3 i x hx; simpa [Array.getD_eq_getD_getElem?, List.getD_eq_getElem?_getD] using this) (fun i j hj => by have := h4 i j hj; rw [← this]; simp [Array.getD_eq_getD_getElem?, List.getD_eq_getElem?_getD])
      refine ⟨pack vs.toArray, ?_, _, σ', _, hk, ⟨vs.toArray, rfl, hin.lessX hrel.defs (fun b hb => .inl hb)⟩, ?_⟩
      · show ((fn.results.mapM (resG a'.tmps)) >>= fun vs => pure (pack vs)).run P w' = _
        rw [Array.mapM_eq_mapM_toList]
        simp only [Sem.run_bind, Sem.run_map, h5]
        first | rfl | (simp only [Result.andThen_ok, Sem.run_pure]; rfl) | simp only [Result.andThen_ok, Sem.run_pure]
      · refine st.trans ⟨Store.le_refl _, fun _ _ => ⟨rfl, fun _ => rfl⟩, Nat.le_refl _, rfl, rfl, rfl, ?_⟩
        intro n hn
        simp only [BC, d2]
        cases hb : β' n with
        | none =>
          cases hq : findN (idOld s'.bx ++ idRef res) n with
          | none => rfl
          | some m => have := d1 n m hq; subst this; simp [hb]
        | some b =>
          obtain ⟨cs, hcs⟩ := r.dom n b hb
          obtain ⟨m, hm⟩ := idOld_has _ n cs hcs (by simpa using hn)
          have : findN (idOld s'.bx ++ idRef res) n = some m := by rw [findN_append, hm]
          rw [this]
          have := d1 n m this
          subst this
          exact hb
    · exact hk.elim
  cases ax with
  | normal => cases e <;> simp only [ExRel] at ex; exact ends q
  | ret => cases e <;> simp only [ExRel] at ex; exact ends q
  | exit i => exact q.elim
  | goto i => exact q.elim
  | panic x =>
    cases e <;> simp only [ExRel] at ex
    obtain ⟨v, rfl, hrd⟩ := ex
    have q : vcPan x s' R := q
    unfold vcPan at q
    split at q
    · rename_i bx' hpass
      obtain ⟨d1, d2⟩ := idList (idOld_id s'.bx)
      have hin := call_in r (args := []) (args' := []) (ops := []) (po := none) (vals := #[]) (idOld s'.bx) (fun m n hm => by rw [d2]; have := d1 m n hm; subst this; exact hm) (fun m n hm => by rw [d2] at hm; have := d1 n m hm; subst this; exact hm) rfl hpass
        rfl (by simp) (by simp)
      refine ⟨r.defs.trans hrel.defs.symm, _, σ', _, q, ⟨v, rfl, hrd, (hin.lessX hrel.defs (fun b hb => .inl hb)).sub rfl rfl (fun _ => .inr rfl) (fun p hp => by cases hp)⟩, ?_⟩
      refine st.trans ⟨Store.le_refl _, fun _ _ => ⟨rfl, fun _ => rfl⟩, Nat.le_refl _, rfl, rfl, rfl, ?_⟩
      intro n hn
      simp only [BC, d2]
      cases hb : β' n with
      | none =>
        cases hq : findN (idOld s'.bx) n with
        | none => rfl
        | some m => have := d1 n m hq; subst this; simp [hb]
      | some b =>
        obtain ⟨cs, hcs⟩ := r.dom n b hb
        obtain ⟨m, hm⟩ := idOld_has _ n cs hcs (by simpa using hn)
        rw [hm]
        have := d1 n m hm
        subst this
        exact hb
    · exact q.elim

end
end Go.Vx

/- The conditions as a rewriting machine: explicit states; each value is forced before it is stored. -/
namespace Go.Vx
set_option linter.unusedVariables false
set_option linter.unusedSimpArgs false
open Go
universe u
set_option linter.unusedVariables false
set_option linter.unusedSimpArgs false

/-- What is not looked into. -/
structure Dm {α : Sort u} (a : α) : Type where

inductive Fz (α : Type) where
  | mk (x : α)
  | no
def fz {α : Type} (x : α) : Fz α := .mk x
theorem fz_eq {α : Type} (x : α) : fz x = .mk x := rfl
/-- A value is brought into its normal form first. -/
def frc {α : Type} (x : α) (K : α → Prop) : Prop := match fz x with | .mk y => K y | .no => False
theorem frc_def {α : Type} (x : α) (K : α → Prop) : frc x K = match fz x with | .mk y => K y | .no => False := id rfl
/-- One of two ways. -/
def kIf' (c : Bool) (A B : Prop) (_ : Dm A) (_ : Dm B) : Prop := (c = true → A) ∧ (c = false → B)
def kAnd' (A B : Prop) (_ : Dm B) : Prop := A ∧ B
def kImp' (A B : Prop) (_ : Dm B) : Prop := A → B
def kIf (c : Bool) (A B : Prop) : Prop := kIf' c A B ⟨⟩ ⟨⟩
def kAnd (A B : Prop) : Prop := kAnd' A B ⟨⟩
def kImp (A B : Prop) : Prop := kImp' A B ⟨⟩
def kCS (P : Program) (f : FuncId) (args : List A) (bx : List (Nat × List A)) (own : List (Loc × Nat)) (R : Out → Prop) (_ : Dm R) (_ : Dm args) (_ : Dm bx) : Prop := CS P f args bx own R
def kLoop (P : Program) (ows : List (FuncId × Nat)) (c : AC) (s : St) (Q : AX → St → Prop) (_ : Dm c) (_ : Dm s) (_ : Dm Q) : Prop := TrA P ows c s Q

theorem kIf_def {c : Bool} {A B : Prop} : kIf c A B = kIf' c A B ⟨⟩ ⟨⟩ := id rfl
theorem kAnd_def {A B : Prop} : kAnd A B = kAnd' A B ⟨⟩ := id rfl
theorem kImp_def {A B : Prop} : kImp A B = kImp' A B ⟨⟩ := id rfl
theorem frc_eq {α : Type} (x : α) (K : α → Prop) : frc x K = K x := rfl
theorem kIf_true (A B : Prop) (a b) : kIf' true A B a b = A := by simp [kIf']
theorem kIf_false (A B : Prop) (a b) : kIf' false A B a b = B := by simp [kIf']
theorem kAnd_true (B : Prop) (b) : kAnd' True B b = B := by simp [kAnd']
theorem kAnd_false (B : Prop) (b) : kAnd' False B b = False := by simp [kAnd']
theorem kImp_true (B : Prop) (b) : kImp' True B b = B := by simp [kImp']
theorem kImp_false (B : Prop) (b) : kImp' False B b = True := by simp [kImp']
theorem kIf_intro {c : Bool} {A B : Prop} {a b} (h : c = true → A) (g : c = false → B) : kIf' c A B a b := ⟨h, g⟩
theorem kAnd_intro {A B : Prop} {b} (h : A) (g : B) : kAnd' A B b := ⟨h, g⟩
theorem kImp_intro {A B : Prop} {b} (h : A → B) : kImp' A B b := h
theorem kCS_intro {P : Program} {f : FuncId} {args : List A} {bx : List (Nat × List A)} {own : List (Loc × Nat)} {R : Out → Prop} {a b c} (h : CS P f args bx own R) : kCS P f args bx own R a b c := h
theorem kLoop_intro {P : Program} {ows c s Q a b e} (h : TrA P ows c s Q) : kLoop P ows c s Q a b e := h

/-! ### Data -/

def evo (t : List (Nat × A)) : Opd → A
  | .t i => look i t
  | .c a => a
theorem ownOf_nil' {i} : ownOf i [] = none := id rfl
theorem evo_t {t i} : evo t (.t i) = look i t := id rfl
theorem evo_c {t a} : evo t (.c a) = a := id rfl
theorem look_nil {i} : look i [] = .any := id rfl
theorem look_cons' {i j x l} : look i ((j, x) :: l) = if i = j then x else look i l := look_cons i j x l
theorem lookB_nil {i} : lookB i [] = none := id rfl
theorem lookB_cons' {i j x l} : lookB i ((j, x) :: l) = if i = j then some x else lookB i l := lookB_cons i j x l
theorem dropOt_nil {d} : dropOt d [] = [] := id rfl
theorem dropOt_t {d i c l} : dropOt d ((.t i, c) :: l) = if d = i then dropOt d l else (.t i, c) :: dropOt d l := by
  by_cases h : d = i
  · subst h; simp [dropOt]
  · have : (d == i) = false := by simpa using h
    have h2 : (i == d) = false := by simpa using fun e : i = d => h e.symm
    simp [dropOt, h, this, h2]
theorem dropOt_b {d n o c l} : dropOt d ((.b n o, c) :: l) = (.b n o, c) :: dropOt d l := id rfl
theorem ownOf_t {i j c l} : ownOf i ((.t j, c) :: l) = if i = j then some c else ownOf i l := by
  by_cases h : i = j
  · subst h; simp [ownOf]
  · have : (i == j) = false := by simpa using h
    simp [ownOf, h, this]
theorem ownOf_b {i n o c l} : ownOf i ((.b n o, c) :: l) = ownOf i l := id rfl
theorem ownOfB_nil {n o} : ownOfB n o [] = none := id rfl
theorem ownOfB_t {n o j c l} : ownOfB n o ((.t j, c) :: l) = ownOfB n o l := id rfl
theorem ownOfB_b {n o m p c l} : ownOfB n o ((.b m p, c) :: l) = if n = m ∧ o = p then some c else ownOfB n o l := by
  by_cases h : n = m ∧ o = p
  · obtain ⟨rfl, rfl⟩ := h; simp [ownOfB]
  · have : ((n == m) && (o == p)) = false := by
      simp only [Bool.and_eq_false_iff, beq_eq_false_iff_ne]
      by_cases h1 : n = m
      · right; exact fun e => h ⟨h1, e⟩
      · left; exact h1
    simp [ownOfB, h, this]
theorem dropOc_nil {n o} : dropOc n o [] = [] := id rfl
theorem dropOc_t {n o i c l} : dropOc n o ((.t i, c) :: l) = (.t i, c) :: dropOc n o l := id rfl
theorem dropOc_b {n o m p c l} : dropOc n o ((.b m p, c) :: l) = if m = n ∧ p = o then dropOc n o l else (.b m p, c) :: dropOc n o l := by
  by_cases h : m = n ∧ p = o
  · obtain ⟨rfl, rfl⟩ := h; simp [dropOc]
  · have : ((m == n) && (p == o)) = false := by
      simp only [Bool.and_eq_false_iff, beq_eq_false_iff_ne]
      by_cases h1 : m = n
      · right; exact fun e => h ⟨h1, e⟩
      · left; exact h1
    simp [dropOc, h, this]
theorem dropOr_nil {n lo hi} : dropOr n lo hi [] = [] := id rfl
theorem dropOr_t {n lo hi i c l} : dropOr n lo hi ((.t i, c) :: l) = (.t i, c) :: dropOr n lo hi l := id rfl
theorem dropOr_b {n lo hi m o c l} : dropOr n lo hi ((.b m o, c) :: l) = if m = n ∧ lo ≤ o ∧ o < hi then dropOr n lo hi l else (.b m o, c) :: dropOr n lo hi l := by
  have e : ((m == n) && (Nat.ble lo o && Nat.blt o hi)) = decide (m = n ∧ lo ≤ o ∧ o < hi) := by
    rw [Bool.eq_iff_iff]
    simp only [Bool.and_eq_true, beq_iff_eq, Nat.ble_eq, Nat.blt_eq, decide_eq_true_eq]
  by_cases h : m = n ∧ lo ≤ o ∧ o < hi
  · have : decide (m = n ∧ lo ≤ o ∧ o < hi) = true := by simpa using h
    show (bif _ then _ else _) = _
    rw [e, this, if_pos h]; rfl
  · have : decide (m = n ∧ lo ≤ o ∧ o < hi) = false := by simpa using h
    show (bif _ then _ else _) = _
    rw [e, this, if_neg h]; rfl
theorem setB_nil {n cs} : setB n cs [] = [] := id rfl
theorem setB_cons {n cs m ds l} : setB n cs ((m, ds) :: l) = if n = m then (m, cs) :: l else (m, ds) :: setB n cs l := by
  by_cases h : n = m
  · subst h; simp [setB]
  · have : (n == m) = false := by simpa using h
    simp [setB, h, this]
theorem lay_nil {α : Type} {l : List α} {o} : lay l o [] = l := id rfl
theorem lay_cons {α : Type} {l : List α} {o x r} : lay l o (x :: r) = lay (l.set o x) (o + 1) r := id rfl
theorem cellsOfA_d {x} : cellsOfA (.d x) = some [.d x] := id rfl
theorem cellsOfA_ptr {n o} : cellsOfA (.ptr n o) = some [.ptr n o] := id rfl
theorem cellsOfA_agg {cs} : cellsOfA (.agg cs) = some cs := id rfl
theorem cellsOfA_clo {f cs} : cellsOfA (.clo f cs) = some [.clo f cs] := id rfl
theorem cellsOfA_bsl {n o l c} : cellsOfA (.bsl n o l c) = some [.bsl n o l c] := id rfl
theorem cellsOfA_ep {e} : cellsOfA (.ep e) = some [.ep e] := id rfl
theorem cellsOfA_any : cellsOfA .any = none := id rfl
theorem cellsOfA_tup {l} : cellsOfA (.tup l) = none := id rfl
theorem toDs_nil : toDs [] = some [] := id rfl
theorem toDs_cons {x l} : toDs (.d x :: l) = (toDs l).map (x :: ·) := by
  show (match toD (.d x), toDs l with | some y, some m => some (y :: m) | _, _ => none) = _
  cases toDs l <;> rfl
theorem map_some' {α β : Type} {f : α → β} {x : α} : (some x).map f = some (f x) := id rfl

/-- The parts' cells. -/
def evs (t : List (Nat × A)) : List (Nat × Nat × Opd) → List (Nat × Nat × Option (List A))
  | [] => []
  | (o, c, x) :: r => (o, c, cellsOfA (evo t x)) :: evs t r
def joinE : List (Nat × Nat × Option (List A)) → Option (List (Nat × Nat × List A))
  | [] => some []
  | (o, c, some xs) :: r => (joinE r).map ((o, c, xs) :: ·)
  | (_, _, none) :: _ => none
theorem ev_evo {n k t bx own x} : St.ev ⟨n, k, t, bx, own⟩ x = evo t x := by cases x <;> rfl
theorem evCells_evs {n k t bx own} : ∀ {l}, evCells ⟨n, k, t, bx, own⟩ l = joinE (evs t l)
  | [] => rfl
  | (o, c, x) :: r => by
    simp only [evCells, evs, evCells_evs (l := r), ev_evo]
    cases cellsOfA (evo t x) with
    | none => rfl
    | some xs => simp only [joinE]; cases joinE (evs t r) <;> rfl
theorem evs_nil {t} : evs t [] = [] := id rfl
theorem evs_cons {t o c x r} : evs t ((o, c, x) :: r) = (o, c, cellsOfA (evo t x)) :: evs t r := id rfl
theorem joinE_nil : joinE [] = some [] := id rfl
theorem joinE_cons {o c xs r} : joinE ((o, c, some xs) :: r) = (joinE r).map ((o, c, xs) :: ·) := id rfl
theorem fillA_nil {cs} : fillA cs [] = some cs := id rfl
theorem fillA_cons {cs off size xs r} : fillA cs ((off, size, xs) :: r) = if xs.length = size ∧ off + xs.length ≤ cs.length then fillA (lay cs off xs) r else none := by
  show (bif (xs.length == size) && Nat.ble (off + xs.length) cs.length then _ else _) = _
  have e : ((xs.length == size) && Nat.ble (off + xs.length) cs.length) = decide (xs.length = size ∧ off + xs.length ≤ cs.length) := by
    rw [Bool.eq_iff_iff]
    simp only [Bool.and_eq_true, beq_iff_eq, Nat.ble_eq, decide_eq_true_eq]
  rw [e]
  by_cases h : xs.length = size ∧ off + xs.length ≤ cs.length
  · rw [if_pos h, show decide (xs.length = size ∧ off + xs.length ≤ cs.length) = true by simpa using h]; rfl
  · rw [if_neg h, show decide (xs.length = size ∧ off + xs.length ≤ cs.length) = false by simpa using h]; rfl
theorem chunk_zero {c} : chunk c 0 [] = some [] := id rfl
theorem chunk_succ {c n l} : chunk c (n + 1) l = if c ≤ l.length then (chunk c n (l.drop c)).map (l.take c :: ·) else none := by
  show (bif Nat.ble c l.length then (match chunk c n (l.drop c) with | some es => some (l.take c :: es) | none => none) else none) = _
  by_cases h : c ≤ l.length
  · rw [if_pos h, show Nat.ble c l.length = true by simpa using h]; simp only [cond_true]; cases chunk c n (l.drop c) <;> rfl
  · rw [if_neg h, show Nat.ble c l.length = false by cases hb : Nat.ble c l.length with | false => rfl | true => exact absurd (Nat.le_of_ble_eq_true hb) h]; rfl
theorem enumA_nil {i} : enumA i [] = [] := id rfl
theorem enumA_cons {i a l} : enumA i (a :: l) = (i, a) :: enumA (i + 1) l := id rfl

/-! ### Ends of operations -/

def kSome {α : Type} (o : Option α) (K : α → Prop) : Prop := match o with | some a => K a | none => False
theorem kSome_some {α : Type} {a : α} {K : α → Prop} : kSome (some a) K = K a := id rfl
theorem kSome_none {α : Type} {K : α → Prop} : kSome (none : Option α) K = False := id rfl
def kOpt {α : Type} (o : Option α) (K : α → Prop) (K' : Prop) : Prop := match o with | some a => K a | none => K'
theorem kOpt_some {α : Type} {a : α} {K : α → Prop} {K'} : kOpt (some a) K K' = K a := id rfl
theorem kOpt_none {α : Type} {K : α → Prop} {K'} : kOpt (none : Option α) K K' = K' := id rfl

/-- A destination is written. -/
def sd (d : Option Nat) (y : A) (n k : Nat) (t : List (Nat × A)) (bx : List (Nat × List A)) (own : List (Loc × Nat)) (K : St → Prop) : Prop := K (St.setd ⟨n, k, t, bx, own⟩ d y)
theorem sd_none {y n k t bx own K} : sd none y n k t bx own K = K ⟨n, k, t, bx, own⟩ := id rfl
theorem sd_some {d y n k t bx own K} : sd (some d) y n k t bx own K = frc (dropOt d own) (fun ow => K ⟨n, k, (d, y) :: t, bx, ow⟩) := id rfl
/-- .. and owns. -/
def so (d : Option Nat) (c : Nat) (y : A) (n k : Nat) (t : List (Nat × A)) (bx : List (Nat × List A)) (own : List (Loc × Nat)) (K : St → Prop) : Prop :=
  match d with | some d => K (St.setO ⟨n, k, t, bx, own⟩ d c y) | none => False
theorem so_some {d c y n k t bx own K} : so (some d) c y n k t bx own K = frc (dropOt d own) (fun ow => K ⟨n, k, (d, y) :: t, bx, (.t d, c) :: ow⟩) := id rfl

def kBool (v : A) (K : Bool → Prop) : Prop := match v with | .d (.bool b) => K b | _ => False
theorem kBool_d {b K} : kBool (.d (.bool b)) K = K b := id rfl
def kInt (v : A) (K : IntKind → Int → Prop) : Prop := match v with | .d (.int k b) => K k b | _ => False
theorem kInt_d {k b K} : kInt (.d (.int k b)) K = K k b := id rfl
def kStr (v : A) (K : List UInt8 → Prop) : Prop := match v with | .d (.str b) => K b | _ => False
theorem kStr_d {b K} : kStr (.d (.str b)) K = K b := id rfl
/-- A place: in a box, or in stable cells. -/
def kPlace (v : A) (Kp : Nat → Nat → Prop) (Ke : List D → Prop) : Prop := match v with | .ptr n o => Kp n o | .ep e => Ke e | _ => False
theorem kPlace_ptr {n o Kp Ke} : kPlace (.ptr n o) Kp Ke = Kp n o := id rfl
theorem kPlace_ep {e Kp Ke} : kPlace (.ep e) Kp Ke = Ke e := id rfl
def kSl (v : A) (Kd : Nat → List (List D) → Prop) (Kb : Nat → Nat → Nat → Nat → Prop) : Prop := match v with | .d (.sl c es) => Kd c es | .bsl n o l c => Kb n o l c | _ => False
theorem kSl_d {c es Kd Kb} : kSl (.d (.sl c es)) Kd Kb = Kd c es := id rfl
theorem kSl_bsl {n o l c Kd Kb} : kSl (.bsl n o l c) Kd Kb = Kb n o l c := id rfl
def kAgg (v : A) (K : List A → Prop) : Prop := match v with | .agg cs => K cs | _ => False
theorem kAgg_agg {cs K} : kAgg (.agg cs) K = K cs := id rfl
def kTup (v : A) (K : List A → Prop) : Prop := match v with | .tup cs => K cs | _ => False
theorem kTup_tup {cs K} : kTup (.tup cs) K = K cs := id rfl

theorem kSome_ex {α : Type} {o : Option α} {K : α → Prop} : (∃ a, o = some a ∧ K a) = kSome o K := by cases o <;> simp [kSome]

/-- Not nil, and no data. -/
def kNn (v : A) (K : Prop) : Prop := match v with | .ptr _ _ => K | .ep _ => K | .clo _ _ => K | _ => False
theorem kNn_ptr {n o K} : kNn (.ptr n o) K = K := id rfl
theorem kNn_ep {e K} : kNn (.ep e) K = K := id rfl
theorem kNn_clo {f cs K} : kNn (.clo f cs) K = K := id rfl
def kBin (op : BinOp) (u v : A) (K : A → Prop) : Prop := match u, v with
    | .d (.int k a), .d (.int k' b) => (isShift op = true ∨ k = k') ∧ vcInt op k a b K
    | .d (.str a), .d (.str b) => vcStr op a b K
    | _, _ => False
section
variable {k k' : IntKind} {a b : Int} {s u : List UInt8} {K : A → Prop}
theorem kBin_add : kBin .add (.d (.int k a)) (.d (.int k b)) K = frc (k.wrap (a + b)) (fun z => K (.d (.int k z))) := by simp [kBin, vcInt, isShift, frc_eq]
theorem kBin_sub : kBin .sub (.d (.int k a)) (.d (.int k b)) K = frc (k.wrap (a - b)) (fun z => K (.d (.int k z))) := by simp [kBin, vcInt, isShift, frc_eq]
theorem kBin_mul : kBin .mul (.d (.int k a)) (.d (.int k b)) K = frc (k.wrap (a * b)) (fun z => K (.d (.int k z))) := by simp [kBin, vcInt, isShift, frc_eq]
theorem kBin_quo : kBin .quo (.d (.int k a)) (.d (.int k b)) K = kAnd (b ≠ 0) (frc (k.wrap (a.tdiv b)) (fun z => K (.d (.int k z)))) := by simp [kBin, vcInt, isShift, frc_eq, kAnd, kAnd']
theorem kBin_rem : kBin .rem (.d (.int k a)) (.d (.int k b)) K = kAnd (b ≠ 0) (frc (a.tmod b) (fun z => K (.d (.int k z)))) := by simp [kBin, vcInt, isShift, frc_eq, kAnd, kAnd']
theorem kBin_and : kBin .and (.d (.int k a)) (.d (.int k b)) K = frc (ibits .and k a b) (fun z => K (.d (.int k z))) := by simp [kBin, vcInt, isShift, frc_eq]
theorem kBin_or : kBin .or (.d (.int k a)) (.d (.int k b)) K = frc (ibits .or k a b) (fun z => K (.d (.int k z))) := by simp [kBin, vcInt, isShift, frc_eq]
theorem kBin_xor : kBin .xor (.d (.int k a)) (.d (.int k b)) K = frc (ibits .xor k a b) (fun z => K (.d (.int k z))) := by simp [kBin, vcInt, isShift, frc_eq]
theorem kBin_andNot : kBin .andNot (.d (.int k a)) (.d (.int k b)) K = frc (ibits .andNot k a b) (fun z => K (.d (.int k z))) := by simp [kBin, vcInt, isShift, frc_eq]
theorem kBin_shl : kBin .shl (.d (.int k a)) (.d (.int k' b)) K = kAnd (0 ≤ b) (frc (k.wrap (a * 2 ^ (min b.toNat k.bits))) (fun z => K (.d (.int k z)))) := by simp [kBin, vcInt, isShift, frc_eq, kAnd, kAnd']
theorem kBin_shr : kBin .shr (.d (.int k a)) (.d (.int k' b)) K = kAnd (0 ≤ b) (frc (a.fdiv (2 ^ (min b.toNat k.bits))) (fun z => K (.d (.int k z)))) := by simp [kBin, vcInt, isShift, frc_eq, kAnd, kAnd']
theorem kBin_eql : kBin .eql (.d (.int k a)) (.d (.int k b)) K = frc (a == b) (fun z => K (.d (.bool z))) := by simp [kBin, vcInt, isShift, frc_eq]
theorem kBin_neq : kBin .neq (.d (.int k a)) (.d (.int k b)) K = frc (a != b) (fun z => K (.d (.bool z))) := by simp [kBin, vcInt, isShift, frc_eq]
theorem kBin_lss : kBin .lss (.d (.int k a)) (.d (.int k b)) K = frc (decide (a < b)) (fun z => K (.d (.bool z))) := by simp [kBin, vcInt, isShift, frc_eq]
theorem kBin_leq : kBin .leq (.d (.int k a)) (.d (.int k b)) K = frc (decide (a ≤ b)) (fun z => K (.d (.bool z))) := by simp [kBin, vcInt, isShift, frc_eq]
theorem kBin_gtr : kBin .gtr (.d (.int k a)) (.d (.int k b)) K = frc (decide (b < a)) (fun z => K (.d (.bool z))) := by simp [kBin, vcInt, isShift, frc_eq]
theorem kBin_geq : kBin .geq (.d (.int k a)) (.d (.int k b)) K = frc (decide (b ≤ a)) (fun z => K (.d (.bool z))) := by simp [kBin, vcInt, isShift, frc_eq]
theorem kBin_str {op} : kBin op (.d (.str s)) (.d (.str u)) K = vcStr op s u K := id rfl
theorem vcStr_add : vcStr .add s u K = kAnd (s.length + u.length ≤ maxL) (K (.d (.str (s ++ u)))) := id rfl
theorem vcStr_eql : vcStr .eql s u K = frc (s == u) (fun z => K (.d (.bool z))) := id rfl
theorem vcStr_neq : vcStr .neq s u K = frc (s != u) (fun z => K (.d (.bool z))) := id rfl
theorem vcStr_lss : vcStr .lss s u K = frc (Op.bytesLess s u) (fun z => K (.d (.bool z))) := id rfl
theorem vcStr_leq : vcStr .leq s u K = frc (Op.bytesLess s u || s == u) (fun z => K (.d (.bool z))) := id rfl
theorem vcStr_gtr : vcStr .gtr s u K = frc (!(Op.bytesLess s u || s == u)) (fun z => K (.d (.bool z))) := id rfl
theorem vcStr_geq : vcStr .geq s u K = frc (!(Op.bytesLess s u)) (fun z => K (.d (.bool z))) := id rfl
end
def kNil (kd : Nat) (v : A) (K : Bool → Prop) : Prop := match kd, v with
    | 0, .ptr _ _ => K false
    | 0, .ep _ => K false
    | 0, .d .nilp => K true
    | 1, .d (.sl _ es) => (es = [] → K true) ∧ K false
    | 2, .d .nilif => K true
    | 2, .d (.iface _ _ _) => K false
    | 3, .clo _ _ => K false
    | 3, .d .nilfn => K true
    | _, _ => False
theorem kNil_ptr {n o K} : kNil 0 (.ptr n o) K = K false := id rfl
theorem kNil_ep {e K} : kNil 0 (.ep e) K = K false := id rfl
theorem kNil_nilp {K} : kNil 0 (.d .nilp) K = K true := id rfl
theorem kNil_sl {c es K} : kNil 1 (.d (.sl c es)) K = ((es = [] → K true) ∧ K false) := id rfl
theorem kNil_nilif {K} : kNil 2 (.d .nilif) K = K true := id rfl
theorem kNil_iface {ty ag cs K} : kNil 2 (.d (.iface ty ag cs)) K = K false := id rfl
theorem kNil_clo {f cs K} : kNil 3 (.clo f cs) K = K false := id rfl
theorem kNil_nilfn {K} : kNil 3 (.d .nilfn) K = K true := id rfl
/-- Bounds of a slice expression. -/
def kBd (lo hi : Option A) (len : Nat) (L : Nat → Nat → Prop) : Prop := match lo, hi with
  | none, none => L 0 len
  | some l, none => kInt l (fun _ a => kAnd (0 ≤ a ∧ a ≤ len) (frc a.toNat (fun l => L l len)))
  | none, some h => kInt h (fun _ b => kAnd (0 ≤ b ∧ b ≤ len) (frc b.toNat (fun h => L 0 h)))
  | some l, some h => kInt l (fun _ a => kInt h (fun _ b => kAnd (0 ≤ a ∧ a ≤ b ∧ b ≤ len) (frc a.toNat (fun l => frc b.toNat (fun h => L l h)))))
theorem kBd_nn {len L} : kBd none none len L = L 0 len := id rfl
theorem kBd_sn {k a len L} : kBd (some (.d (.int k a))) none len L = kAnd (0 ≤ a ∧ a ≤ len) (frc a.toNat (fun l => L l len)) := id rfl
theorem kBd_ns {k b len L} : kBd none (some (.d (.int k b))) len L = kAnd (0 ≤ b ∧ b ≤ len) (frc b.toNat (fun h => L 0 h)) := id rfl
theorem kBd_ss {k k' a b len L} : kBd (some (.d (.int k a))) (some (.d (.int k' b))) len L = kAnd (0 ≤ a ∧ a ≤ b ∧ b ≤ len) (frc a.toNat (fun l => frc b.toNat (fun h => L l h))) := id rfl
/-- What is appended, or copied. -/
def kSrc (bx : List (Nat × List A)) (c : Nat) (v : A) (K : List (List D) → Prop) : Prop := match v, K with
  | .d (.sl c' es), K => (c' = c ∨ es = []) ∧ (es.length ≤ maxL → K es)
  | .d (.str b), K => c = 1 ∧ (b.length ≤ maxL → K (b.map bc))
  | .bsl n o len _, K => match lookB n bx with
    | some cs => (o + len * c ≤ cs.length ∧ len ≤ maxL) ∧ (match toDs ((cs.drop o).take (len * c)) with
      | some ds => match chunk c len ds with
        | some es => K es
        | none => False
      | none => False)
    | none => False
  | _, _ => False
theorem kSrc_d {bx c c' es K} : kSrc bx c (.d (.sl c' es)) K = kAnd (c' = c ∨ es = []) (kImp (es.length ≤ maxL) (K es)) := id rfl
theorem kSrc_str {bx c b K} : kSrc bx c (.d (.str b)) K = kAnd (c = 1) (kImp (b.length ≤ maxL) (K (b.map bc))) := id rfl
theorem kSrc_bsl {bx c n o len cap K} : kSrc bx c (.bsl n o len cap) K = kSome (lookB n bx) (fun cs => kAnd (o + len * c ≤ cs.length ∧ len ≤ maxL) (frc (toDs ((cs.drop o).take (len * c))) (fun q => kSome q (fun ds => frc (chunk c len ds) (fun q => kSome q (fun es => K es)))))) := by
  simp only [kSrc, kSome, frc_eq, kAnd, kAnd']
  cases lookB n bx with
  | none => rfl
  | some cs => simp only; cases toDs ((cs.drop o).take (len * c)) with
    | none => rfl
    | some ds => simp only; cases chunk c len ds <;> rfl
def kMk (v : A) (K : Bool → List D → Prop) : Prop := match v with
    | .d v => K false [v]
    | .agg cs => match toDs cs with
      | some ds => K true ds
      | none => False
    | _ => False
theorem kMk_d {v K} : kMk (.d v) K = K false [v] := id rfl
theorem kMk_agg {cs K} : kMk (.agg cs) K = frc (toDs cs) (fun o => kSome o (fun ds => K true ds)) := by
  simp only [kMk, frc_eq, kSome]
  all_goals (cases toDs cs <;> rfl)
def kIfc (v : A) (KP : D → Prop) : Prop := match v with | .d (.iface ty ag cs) => KP (.iface ty ag cs) | _ => False
theorem kIfc_d {ty ag cs K} : kIfc (.d (.iface ty ag cs)) K = K (.iface ty ag cs) := id rfl

/-! ### Operations -/

section
variable {d : Option Nat} {n k : Nat} {t : List (Nat × A)} {bx : List (Nat × List A)} {own : List (Loc × Nat)} {K : St → Prop} {KP : D → Prop}

theorem x_mv {x} : vcOp (.mv x false) d ⟨n, k, t, bx, own⟩ K KP = frc (evo t x) (fun v => sd d v n k t bx own K) := by
  rw [← ev_evo (n := n) (k := k) (bx := bx) (own := own)]; rfl
theorem x_mvc {a} : vcOp (.mv (.c a) true) d ⟨n, k, t, bx, own⟩ K KP = sd d a n k t bx own K := by cases d <;> rfl
theorem x_mvt {i} : vcOp (.mv (.t i) true) d ⟨n, k, t, bx, own⟩ K KP = frc (look i t) (fun v => kOpt d (fun d => kOpt (ownOf i own) (fun c => frc (dropOt i (dropOt d own)) (fun ow => K ⟨n, k, (d, v) :: t, bx, (.t d, c) :: ow⟩))
    (sd (some d) v n k t bx own K)) (K ⟨n, k, t, bx, own⟩)) := by
  cases d with
  | none => rfl
  | some d =>
    show K (St.take _ _ _) = _
    simp only [St.take, frc_eq, kOpt, sd]
    cases h : ownOf i own <;> rfl
theorem x_nil {c} : vcOp (.nil c) d ⟨n, k, t, bx, own⟩ K KP = kOpt d (fun d => so (some d) c (.d (.sl c [])) n k t bx own K) (K ⟨n, k, t, bx, own⟩) := by cases d <;> rfl
theorem x_pick {c a b} : vcOp (.pick c a b) d ⟨n, k, t, bx, own⟩ K KP = frc (evo t c) (fun v => kBool v (fun q => kIf q (frc (evo t a) (fun y => sd d y n k t bx own K)) (frc (evo t b) (fun y => sd d y n k t bx own K)))) := by
  simp only [vcOp, ev_evo, frc_eq, kBool, kIf, kIf', sd]
  cases hm : evo t c with
  | d y => cases y <;> rfl
  | _ => rfl
theorem x_alloc {cs ow} : vcOp (.alloc cs ow) d ⟨n, k, t, bx, own⟩ K KP = kSome d (fun d => frc (k + d) (fun m => kAnd (lookB m bx = none) (frc (ow.map (fun p => (.b m p.1, p.2)) ++ dropOt d own) (fun ow' => K ⟨n, k, (d, .ptr m 0) :: t, (m, cs) :: bx, ow'⟩)))) := by
  cases d <;> rfl
theorem x_box {c x} : vcOp (.box c x) d ⟨n, k, t, bx, own⟩ K KP = kSome d (fun d => frc (cellsOfA (evo t x)) (fun o => kSome o (fun cs => frc (k + d) (fun m => kAnd (lookB m bx = none) (kAnd (cs.length = c) (frc (plB c cs) (fun cs' => frc (plO c m cs ++ dropOt d own) (fun ow' => K ⟨n, k, (d, .ptr m 0) :: t, (m, cs') :: bx, ow'⟩)))))))) := by
  cases d with
  | none => rfl
  | some d => simp only [vcOp, ev_evo, frc_eq, kSome]; cases cellsOfA (evo t x) <;> rfl
theorem x_build {z ps} : vcOp (.build z ps) d ⟨n, k, t, bx, own⟩ K KP = frc (joinE (evs t ps)) (fun o => kSome o (fun l => frc (fillA z l) (fun o => kSome o (fun cs => sd d (.agg cs) n k t bx own K)))) := by
  simp only [vcOp, evCells_evs, frc_eq, kSome, sd]
  cases joinE (evs t ps) with
  | none => rfl
  | some l => simp only; cases fillA z l <;> rfl
theorem x_bslc {c len z ps} : vcOp (.bslc c len z ps) d ⟨n, k, t, bx, own⟩ K KP = frc (joinE (evs t ps)) (fun o => kSome o (fun l => frc (fillA ((List.replicate len z).flatten.map .d) l) (fun o => kSome o (fun cs =>
    frc (toDs cs) (fun o => kSome o (fun ds => frc (chunk c len ds) (fun o => kSome o (fun es => so d c (.d (.sl c es)) n k t bx own K)))))))) := by
  simp only [vcOp, evCells_evs, frc_eq, kSome, so]
  cases d with
  | none => cases joinE (evs t ps) with
    | none => rfl
    | some l => simp only; cases fillA ((List.replicate len z).flatten.map .d) l with
      | none => rfl
      | some cs => simp only; cases toDs cs with
        | none => rfl
        | some ds => simp only; cases chunk c len ds <;> rfl
  | some d => cases joinE (evs t ps) with
    | none => rfl
    | some l => simp only; cases fillA ((List.replicate len z).flatten.map .d) l with
      | none => rfl
      | some cs => simp only; cases toDs cs with
        | none => rfl
        | some ds => simp only; cases chunk c len ds <;> rfl
theorem x_bslf {c len z ps} : vcOp (.bslf c len z ps) d ⟨n, k, t, bx, own⟩ K KP = kSome d (fun d => frc (joinE (evs t ps)) (fun o => kSome o (fun l => frc (fillA ((List.replicate len z).flatten.map .d) l) (fun o => kSome o (fun cs =>
    frc (k + d) (fun m => kAnd (lookB m bx = none) (kAnd (cs.length = len * c) (frc (dropOt d own) (fun ow => K ⟨n, k, (d, .bsl m 0 len len) :: t, (m, cs) :: bx, ow⟩))))))))) := by
  simp only [vcOp, evCells_evs, frc_eq, kSome, kAnd, kAnd']
  cases d with
  | none => rfl
  | some d => cases joinE (evs t ps) with
    | none => rfl
    | some l => simp only; cases fillA ((List.replicate len z).flatten.map .d) l <;> rfl
theorem x_load1 {c x} : vcOp (.load false c x false) d ⟨n, k, t, bx, own⟩ K KP = frc (evo t x) (fun v => kPlace v (fun m o => frc (lookB m bx) (fun b => kSome b (fun cs => frc (cs[o]?) (fun y => kSome y (fun y => sd d y n k t bx own K)))))
    (fun e => frc (e[0]?) (fun y => kSome y (fun y => sd d (.d y) n k t bx own K)))) := by
  simp only [vcOp, ev_evo, frc_eq, kPlace, kSome_ex, sd]
  cases hm : evo t x with
  | ptr m o =>
    simp only
    cases lookB m bx <;> rfl
  | _ => rfl
theorem x_loadt {c x} : vcOp (.load false c x true) d ⟨n, k, t, bx, own⟩ K KP = frc (evo t x) (fun v => kPlace v (fun m o => frc (lookB m bx) (fun b => kSome b (fun cs => frc (cs[o]?) (fun y => kSome y (fun y =>
      kOpt d (fun d => kOpt (ownOfB m o own) (fun oc => frc (dropOc m o (dropOt d own)) (fun ow => K ⟨n, k, (d, y) :: t, bx, (.t d, oc) :: ow⟩)) (sd (some d) y n k t bx own K)) (K ⟨n, k, t, bx, own⟩)))))
    ) (fun e => frc (e[0]?) (fun y => kSome y (fun y => sd d (.d y) n k t bx own K)))) := by
  simp only [vcOp, ev_evo, frc_eq, kPlace, kSome_ex, sd]
  cases hm : evo t x with
  | ptr m o =>
    simp only
    cases lookB m bx with
    | none => rfl
    | some cs =>
      simp only [kSome]
      cases cs[o]? with
      | none => rfl
      | some y =>
        simp only
        cases d with
        | none => rfl
        | some d => simp only [kOpt]; cases ownOfB m o own <;> rfl
  | _ => rfl
theorem x_loada {c x tr} : vcOp (.load true c x tr) d ⟨n, k, t, bx, own⟩ K KP = frc (evo t x) (fun v => kPlace v (fun m o => frc (lookB m bx) (fun b => kSome b (fun cs => kAnd (o + c ≤ cs.length) (frc ((cs.drop o).take c) (fun l => sd d (.agg l) n k t bx own K)))))
    (fun e => kAnd (c ≤ e.length) (frc ((e.take c).map .d) (fun l => sd d (.agg l) n k t bx own K)))) := by
  simp only [vcOp, ev_evo, frc_eq, kPlace, sd]
  cases hm : evo t x with
  | ptr m o => simp only; cases lookB m bx <;> rfl
  | _ => rfl
theorem x_store {c x v} : vcOp (.store c x v) d ⟨n, k, t, bx, own⟩ K KP = frc (evo t x) (fun p => kPlace p (fun m off => frc (cellsOfA (evo t v)) (fun o => kSome o (fun xs => frc (lookB m bx) (fun b => kSome b (fun cs =>
    kAnd (xs.length = c) (kAnd (off + c ≤ cs.length) (kAnd (xs.all isCell = true) (
      kOpt (match v with | .t i => (match look i t, ownOf i own with | .d (.sl _ _), some oc => some (i, oc) | _, _ => none) | .c _ => none)
        (fun q => frc (setB m (lay cs off xs) bx) (fun bx' => frc (dropOr m off (off + c) (dropOt q.1 own)) (fun ow => K ⟨n, k, t, bx', (.b m off, q.2) :: ow⟩)))
        (frc (setB m (lay cs off xs) bx) (fun bx' => frc (dropOr m off (off + c) own) (fun ow => K ⟨n, k, t, bx', ow⟩))))))))))) (fun _ => False)) := by
  simp only [vcOp, ev_evo, frc_eq, kPlace]
  cases hp : evo t x with
  | ptr m off =>
    simp only
    cases hc : cellsOfA (evo t v) with
    | none => rfl
    | some xs =>
      simp only [kSome]
      cases lookB m bx with
      | none => rfl
      | some cs =>
        simp only [kAnd, kAnd']
        cases v with
        | c a => rfl
        | t i =>
          simp only [kOpt]
          have hx : ∀ c' es, look i t = .d (.sl c' es) → xs = [.d (.sl c' es)] := by
            intro c' es e
            have : evo t (.t i) = look i t := id rfl
            rw [this, e] at hc
            simpa [cellsOfA] using hc.symm
          cases ha : look i t with
          | d y =>
            cases y with
            | sl c' es =>
              cases ownOf i own with
              | none => rfl
              | some oc => simp only [hx c' es ha, lay_cons, lay_nil]
            | _ => rfl
          | _ => rfl
  | ep e => cases cellsOfA (evo t v) <;> rfl
  | _ => cases cellsOfA (evo t v) <;> rfl

theorem x_nilck {x} : vcOp (.nilck x) d ⟨n, k, t, bx, own⟩ K KP = frc (evo t x) (fun v => kNn v (sd d v n k t bx own K)) := by
  simp only [vcOp, ev_evo, frc_eq, kNn, sd]
  cases hm : evo t x <;> rfl
theorem x_bin {op x y} : vcOp (.bin op x y) d ⟨n, k, t, bx, own⟩ K KP = frc (evo t x) (fun u => frc (evo t y) (fun v => kBin op u v (fun z => sd d z n k t bx own K))) := by
  simp only [vcOp, ev_evo, frc_eq, kBin, sd]
  cases evo t x with
  | d p => cases p <;> (cases evo t y with
    | d q => cases q <;> rfl
    | _ => rfl)
  | _ => cases evo t y with
    | d q => cases q <;> rfl
    | _ => rfl
theorem x_binB {neg x y} : vcOp (.binB neg x y) d ⟨n, k, t, bx, own⟩ K KP = frc (evo t x) (fun u => frc (evo t y) (fun v => kBool u (fun a => kBool v (fun b => sd d (.d (.bool (bif neg then a != b else a == b))) n k t bx own K)))) := by
  simp only [vcOp, ev_evo, frc_eq, kBool, sd]
  cases evo t x with
  | d p => cases p with
    | bool a => cases evo t y with
      | d q => cases q <;> rfl
      | _ => rfl
    | _ => rfl
  | _ => rfl
theorem x_isnil {neg kd x} : vcOp (.isnil neg kd x) d ⟨n, k, t, bx, own⟩ K KP = frc (evo t x) (fun u => kNil kd u (fun b => sd d (.d (.bool (bif b then !neg else neg))) n k t bx own K)) := by
  simp only [vcOp, ev_evo, frc_eq, kNil, sd]
  split <;> simp_all
theorem x_idn {x} : vcOp (.idn x) d ⟨n, k, t, bx, own⟩ K KP = frc (evo t x) (fun u => kStr u (fun b => sd d (.d (.str b)) n k t bx own K)) := by
  simp only [vcOp, ev_evo, frc_eq, kStr, sd]
  all_goals (cases evo t x with
    | d y => cases y <;> rfl
    | _ => rfl)
theorem x_eqs {neg ks x y} : vcOp (.eqs neg ks x y) d ⟨n, k, t, bx, own⟩ K KP = frc (evo t x) (fun u => frc (evo t y) (fun v => kAgg u (fun xs => kAgg v (fun ys => frc (eqCells ks xs ys) (fun o => kSome o (fun b =>
    sd d (.d (.bool (bif neg then !b else b))) n k t bx own K)))))) := by
  simp only [vcOp, ev_evo, frc_eq, kAgg, kSome, sd]
  cases evo t x with
  | agg xs => cases evo t y with
    | agg ys => simp only; cases eqCells ks xs ys <;> rfl
    | _ => rfl
  | _ => cases evo t y <;> rfl
theorem x_not {x} : vcOp (.un .not x) d ⟨n, k, t, bx, own⟩ K KP = frc (evo t x) (fun u => kBool u (fun b => sd d (.d (.bool !b)) n k t bx own K)) := by
  simp only [vcOp, ev_evo, frc_eq, kBool, sd]
  all_goals (cases evo t x with
    | d y => cases y <;> rfl
    | _ => rfl)
theorem x_neg {x} : vcOp (.un .neg x) d ⟨n, k, t, bx, own⟩ K KP = frc (evo t x) (fun u => kInt u (fun q b => sd d (.d (.int q (q.wrap (0 - b)))) n k t bx own K)) := by
  simp only [vcOp, ev_evo, frc_eq, kInt, sd]
  all_goals (cases evo t x with
    | d y => cases y <;> rfl
    | _ => rfl)
theorem x_cpl {x} : vcOp (.un .xor x) d ⟨n, k, t, bx, own⟩ K KP = frc (evo t x) (fun u => kInt u (fun q b => sd d (.d (.int q (ibits .xor q (bif q.signed then -1 else q.max) b))) n k t bx own K)) := by
  simp only [vcOp, ev_evo, frc_eq, kInt, sd]
  all_goals (cases evo t x with
    | d y => cases y <;> rfl
    | _ => rfl)
theorem x_cvi {q x} : vcOp (.cvi q x) d ⟨n, k, t, bx, own⟩ K KP = frc (evo t x) (fun u => kInt u (fun _ b => sd d (.d (.int q (q.wrap b))) n k t bx own K)) := by
  simp only [vcOp, ev_evo, frc_eq, kInt, sd]
  all_goals (cases evo t x with
    | d y => cases y <;> rfl
    | _ => rfl)
theorem x_cvb {x} : vcOp (.cvb x) d ⟨n, k, t, bx, own⟩ K KP = kSome d (fun d => frc (evo t x) (fun u => kStr u (fun b => kImp (b.length ≤ maxL) (so (some d) 1 (.d (.sl 1 (b.map bc))) n k t bx own K)))) := by
  simp only [vcOp, ev_evo, frc_eq, kStr, so, kSome, kImp, kImp']
  cases d with
  | none => rfl
  | some d => cases evo t x with
    | d y => cases y <;> rfl
    | _ => rfl
def kCv (v : A) (M : Nat → Nat → Nat → Prop) : Prop := match v with
  | .bsl m 0 len cap => M m len cap
  | _ => False
theorem kCv_bsl {m len cap M} : kCv (.bsl m 0 len cap) M = M m len cap := id rfl
theorem x_cvl {i} : vcOp (.cvl (.t i)) d ⟨n, k, t, bx, own⟩ K KP = kSome d (fun d => frc (look i t) (fun v => kCv v (fun m len cap => frc (lookB m bx) (fun q => kSome q (fun cs => frc (toDs cs) (fun q => kSome q (fun ds =>
    kAnd (len = cap ∧ len = ds.length ∧ len ≤ maxL ∧ k ≤ m) (frc (frzT m ds t) (fun t' => frc (frzB m ds bx) (fun b' => frc (dropOt d (frzO m own)) (fun ow => K ⟨n, k, (d, .ful 1 (ds.map fun x => [x])) :: t', b', ow⟩))))))))))) := by
  have e : St.ev ⟨n, k, t, bx, own⟩ (.t i) = look i t := id rfl
  simp only [vcOp, e, frc_eq, kCv, kSome, kAnd, kAnd']
  cases d with
  | none => rfl
  | some d =>
    simp only
    cases look i t with
    | bsl m off len cap =>
      cases off with
      | zero =>
        simp only
        cases lookB m bx with
        | none => rfl
        | some cs => simp only; cases toDs cs <;> rfl
      | succ off => rfl
    | _ => rfl
theorem x_cvs {x} : vcOp (.cvs x) d ⟨n, k, t, bx, own⟩ K KP = frc (evo t x) (fun u => kSl u (fun c es => kAnd (c = 1 ∨ es = []) (kImp (es.length ≤ maxL) (∃ bs : List UInt8, es = bs.map bc ∧ sd d (.d (.str bs)) n k t bx own K))) (fun _ _ _ _ => False)) := by
  simp only [vcOp, ev_evo, frc_eq, kSl, sd, kAnd, kAnd', kImp, kImp']
  cases evo t x with
  | d y => cases y <;> rfl
  | _ => rfl
theorem x_fa {off x} : vcOp (.fa off x) d ⟨n, k, t, bx, own⟩ K KP = frc (evo t x) (fun v => kPlace v (fun m o => frc (o + off) (fun q => sd d (.ptr m q) n k t bx own K)) (fun e => frc (e.drop off) (fun e' => sd d (.ep e') n k t bx own K))) := by
  simp only [vcOp, ev_evo, frc_eq, kPlace, sd]
  all_goals (cases evo t x with
    | d y => cases y <;> rfl
    | _ => rfl)
theorem x_flda {off c x} : vcOp (.fld true off c x) d ⟨n, k, t, bx, own⟩ K KP = frc (evo t x) (fun v => kAgg v (fun cs => kAnd (off + c ≤ cs.length) (frc ((cs.drop off).take c) (fun l => sd d (.agg l) n k t bx own K)))) := by
  simp only [vcOp, ev_evo, frc_eq, kAgg, sd, kAnd, kAnd']
  all_goals (cases evo t x with
    | d y => cases y <;> rfl
    | _ => rfl)
theorem x_fld1 {off c x} : vcOp (.fld false off c x) d ⟨n, k, t, bx, own⟩ K KP = frc (evo t x) (fun v => kAgg v (fun cs => frc (cs[off]?) (fun y => kSome y (fun y => sd d y n k t bx own K)))) := by
  simp only [vcOp, ev_evo, frc_eq, kAgg, sd, kSome_ex]
  all_goals (cases evo t x with
    | d y => cases y <;> rfl
    | _ => rfl)
theorem x_ixa {m c x i} : vcOp (.ixa m c x i) d ⟨n, k, t, bx, own⟩ K KP = frc (evo t x) (fun v => frc (evo t i) (fun w => kInt w (fun _ j => kPlace v (fun b o => kAnd (0 ≤ j ∧ j < m) (frc (o + j.toNat * c) (fun q => sd d (.ptr b q) n k t bx own K)))
    (fun e => kAnd (0 ≤ j ∧ j < m) (frc (e.drop (j.toNat * c)) (fun e' => sd d (.ep e') n k t bx own K)))))) := by
  simp only [vcOp, ev_evo, frc_eq, kPlace, kInt, sd, kAnd, kAnd']
  cases evo t x <;> (cases evo t i with
    | d y => cases y <;> rfl
    | _ => rfl)
theorem x_ixs {c x i} : vcOp (.ixs c x i) d ⟨n, k, t, bx, own⟩ K KP = frc (evo t x) (fun v => frc (evo t i) (fun w => kInt w (fun _ j => kSl v (fun c' es => kAnd (c' = c ∨ es = []) (kAnd (0 ≤ j ∧ j < es.length) (frc (es.getD j.toNat []) (fun e => sd d (.ep e) n k t bx own K))))
    (fun m o len _ => kAnd (0 ≤ j ∧ j < len) (frc (o + j.toNat * c) (fun q => sd d (.ptr m q) n k t bx own K)))))) := by
  simp only [vcOp, ev_evo, frc_eq, kSl, kInt, sd, kAnd, kAnd']
  cases evo t x with
  | d z => cases z <;> (cases evo t i with
    | d y => cases y <;> rfl
    | _ => rfl)
  | _ => cases evo t i with
    | d y => cases y <;> rfl
    | _ => rfl
theorem x_ixv1 {m c x i} : vcOp (.ixv false m c x i) d ⟨n, k, t, bx, own⟩ K KP = frc (evo t x) (fun v => frc (evo t i) (fun w => kInt w (fun _ j => kAgg v (fun cs => kAnd (0 ≤ j ∧ j < m) (frc (cs[j.toNat * c]?) (fun y => kSome y (fun y => sd d y n k t bx own K))))))) := by
  simp only [vcOp, ev_evo, frc_eq, kAgg, kInt, sd, kAnd, kAnd', kSome_ex]
  cases evo t x <;> (cases evo t i with
    | d y => cases y <;> rfl
    | _ => rfl)
theorem x_ixva {m c x i} : vcOp (.ixv true m c x i) d ⟨n, k, t, bx, own⟩ K KP = frc (evo t x) (fun v => frc (evo t i) (fun w => kInt w (fun _ j => kAgg v (fun cs => kAnd (0 ≤ j ∧ j < m) (kAnd (j.toNat * c + c ≤ cs.length) (frc ((cs.drop (j.toNat * c)).take c) (fun l => sd d (.agg l) n k t bx own K))))))) := by
  simp only [vcOp, ev_evo, frc_eq, kAgg, kInt, sd, kAnd, kAnd']
  cases evo t x <;> (cases evo t i with
    | d y => cases y <;> rfl
    | _ => rfl)
theorem x_ixc {x i} : vcOp (.ixc x i) d ⟨n, k, t, bx, own⟩ K KP = frc (evo t x) (fun v => frc (evo t i) (fun w => kInt w (fun _ j => kStr v (fun b => kAnd (0 ≤ j ∧ j < b.length) (sd d (.d (.int .u8 (b.getD j.toNat 0).toNat)) n k t bx own K))))) := by
  simp only [vcOp, ev_evo, frc_eq, kStr, kInt, sd, kAnd, kAnd']
  cases evo t x with
  | d z => cases z <;> (cases evo t i with
    | d y => cases y <;> rfl
    | _ => rfl)
  | _ => cases evo t i with
    | d y => cases y <;> rfl
    | _ => rfl
theorem x_len {x} : vcOp (.len x) d ⟨n, k, t, bx, own⟩ K KP = frc (evo t x) (fun v => kSl v (fun c es => kImp (es.length ≤ maxL) (frc ((es.length : Nat) : Int) (fun l => sd d (.d (.int .i64 l)) n k t bx own K))) (fun _ _ len _ => sd d (.d (.int .i64 len)) n k t bx own K)) := by
  simp only [vcOp, ev_evo, frc_eq, kSl, sd, kImp, kImp']
  cases evo t x with
  | d y => cases y <;> rfl
  | _ => rfl
theorem x_lenS {x} : vcOp (.lenS x) d ⟨n, k, t, bx, own⟩ K KP = frc (evo t x) (fun v => kStr v (fun b => kImp (b.length ≤ maxL) (frc ((b.length : Nat) : Int) (fun l => sd d (.d (.int .i64 l)) n k t bx own K)))) := by
  simp only [vcOp, ev_evo, frc_eq, kStr, sd, kImp, kImp']
  all_goals (cases evo t x with
    | d y => cases y <;> rfl
    | _ => rfl)
theorem x_lenA {m} : vcOp (.lenA m) d ⟨n, k, t, bx, own⟩ K KP = sd d (.d (.int .i64 m)) n k t bx own K := id rfl
theorem x_bounds {len lo hi} {L : Nat → Nat → Prop} : vcBounds ⟨n, k, t, bx, own⟩ len lo hi L = kBd (lo.map (evo t)) (hi.map (evo t)) len L := by
  cases lo with
  | none => cases hi with
    | none => rfl
    | some h =>
      simp only [vcBounds, ev_evo, kBd, kInt, Option.map_some, Option.map_none, kAnd, kAnd', frc_eq]
      cases evo t h with
      | d y => cases y <;> rfl
      | _ => rfl
  | some l => cases hi with
    | none =>
      simp only [vcBounds, ev_evo, kBd, kInt, Option.map_some, Option.map_none, kAnd, kAnd', frc_eq]
      cases evo t l with
      | d y => cases y <;> rfl
      | _ => rfl
    | some h =>
      simp only [vcBounds, ev_evo, kBd, kInt, Option.map_some, kAnd, kAnd', frc_eq]
      cases evo t l with
      | d y => cases y <;> (cases evo t h with
        | d z => cases z <;> rfl
        | _ => rfl)
      | _ => rfl
theorem x_slc {c x lo hi} : vcOp (.slc c x lo hi false) d ⟨n, k, t, bx, own⟩ K KP = frc (evo t x) (fun v => kSl v (fun c' es => kAnd (c' = c ∨ es = []) (kImp (es.length ≤ maxL) (vcBounds ⟨n, k, t, bx, own⟩ es.length lo hi (fun l h => frc ((es.take h).drop l) (fun es' => sd d (.d (.sl c es')) n k t bx own K)))))
    (fun m o len cap => kAnd (len ≤ cap) (vcBounds ⟨n, k, t, bx, own⟩ len lo hi (fun l h => kAnd (l < cap) (frc (o + l * c) (fun o' => frc (h - l) (fun l' => frc (cap - l) (fun c' => sd d (.bsl m o' l' c') n k t bx own K)))))))) := by
  simp only [vcOp, ev_evo, frc_eq, kSl, sd, kAnd, kAnd', kImp, kImp']
  cases evo t x with
  | d y => cases y <;> rfl
  | _ => rfl
theorem x_slct {c i lo} {dd : Nat} : vcOp (.slc c (.t i) lo none true) (some dd) ⟨n, k, t, bx, own⟩ K KP = frc (look i t) (fun v => kSl v (fun c' es => kAnd (c' = c ∨ es = []) (kImp (es.length ≤ maxL) (vcBounds ⟨n, k, t, bx, own⟩ es.length lo none (fun l h =>
      kOpt (ownOf i own) (fun oc => kAnd (oc = c) (frc (es.drop l) (fun es' => frc (dropOt i (dropOt dd own)) (fun ow => K ⟨n, k, (dd, .d (.sl c es')) :: t, bx, (.t dd, oc) :: ow⟩)))) (frc ((es.take h).drop l) (fun es' => sd (some dd) (.d (.sl c es')) n k t bx own K))))))
    (fun m o len cap => kAnd (len ≤ cap) (vcBounds ⟨n, k, t, bx, own⟩ len lo none (fun l h => kAnd (l < cap) (frc (o + l * c) (fun o' => frc (h - l) (fun l' => frc (cap - l) (fun c' => sd (some dd) (.bsl m o' l' c') n k t bx own K)))))))) := by
  have e : St.ev ⟨n, k, t, bx, own⟩ (.t i) = look i t := id rfl
  simp only [vcOp, e, frc_eq, kSl, sd, kAnd, kAnd', kImp, kImp', kOpt]
  cases look i t with
  | d y => cases y <;> (try rfl)
           simp only
           congr 1; congr 1
           cases ownOf i own <;> rfl
  | _ => rfl
theorem x_sla {m c x lo hi} : vcOp (.sla m c x lo hi) d ⟨n, k, t, bx, own⟩ K KP = frc (evo t x) (fun v => kPlace v (fun b o => vcBounds ⟨n, k, t, bx, own⟩ m lo hi (fun l h => kAnd (l < m) (frc (o + l * c) (fun o' => frc (h - l) (fun l' => frc (m - l) (fun c' => sd d (.bsl b o' l' c') n k t bx own K)))))) (fun _ => False)) := by
  simp only [vcOp, ev_evo, frc_eq, kPlace, sd, kAnd, kAnd']
  cases evo t x <;> rfl
theorem x_sls {x lo hi} : vcOp (.sls x lo hi) d ⟨n, k, t, bx, own⟩ K KP = frc (evo t x) (fun v => kStr v (fun b => kImp (b.length ≤ maxL) (vcBounds ⟨n, k, t, bx, own⟩ b.length lo hi (fun l h => frc ((b.take h).drop l) (fun b' => sd d (.d (.str b')) n k t bx own K))))) := by
  simp only [vcOp, ev_evo, frc_eq, kStr, sd, kImp, kImp']
  all_goals (cases evo t x with
    | d y => cases y <;> rfl
    | _ => rfl)
theorem x_src {c v} {L : List (List D) → Prop} : srcCells ⟨n, k, t, bx, own⟩ c v L = kSrc bx c v L := id rfl
theorem x_appt {c by_ i x} {dd : Nat} : vcOp (.app c by_ (.t i) x) (some dd) ⟨n, k, t, bx, own⟩ K KP = frc (look i t) (fun v => kSl v (fun c' es => kAnd (c' = c ∨ es = []) (kAnd (ownOf i own = some c) (kImp (es.length ≤ maxL) (frc (evo t x) (fun u => kSrc bx c u (fun xs =>
    kAnd (es.length + xs.length ≤ maxL) (kAnd ((es.length + xs.length) * by_ ≤ 140737488355328) (frc (dropOt i (dropOt dd own)) (fun ow => K ⟨n, k, (dd, .d (.sl c (es ++ xs))) :: t, bx, (.t dd, c) :: ow⟩)))))))))
    (fun _ _ _ _ => False)) := by
  have e : St.ev ⟨n, k, t, bx, own⟩ (.t i) = look i t := id rfl
  simp only [vcOp, e, ev_evo, frc_eq, kSl, kAnd, kAnd', kImp, kImp', x_src]
  cases look i t with
  | d y => cases y <;> rfl
  | _ => rfl
theorem x_appc {c by_ a x} {dd : Nat} : vcOp (.app c by_ (.c a) x) (some dd) ⟨n, k, t, bx, own⟩ K KP = kSl a (fun _ es => kAnd (es = []) (frc (evo t x) (fun u => kSrc bx c u (fun xs =>
    kAnd (xs.length ≤ maxL) (kAnd (xs.length * by_ ≤ 140737488355328) (so (some dd) c (.d (.sl c xs)) n k t bx own K)))))) (fun _ _ _ _ => False) := by
  have e : St.ev ⟨n, k, t, bx, own⟩ (.c a) = a := id rfl
  simp only [vcOp, e, ev_evo, frc_eq, kSl, kAnd, kAnd', x_src, so]
  cases a with
  | d y => cases y <;> rfl
  | _ => rfl
theorem x_cpy {c dd x} : vcOp (.cpy c dd x) d ⟨n, k, t, bx, own⟩ K KP = frc (evo t dd) (fun v => kSl v (fun _ _ => False) (fun m o len _ => frc (lookB m bx) (fun q => kSome q (fun cs => kAnd (o + len * c ≤ cs.length) (frc (evo t x) (fun u => kSrc bx c u (fun xs =>
    frc (setB m (lay cs o ((xs.take len).flatten.map .d)) bx) (fun bx' => frc (dropOr m o (o + len * c) own) (fun ow => sd d (.d (.int .i64 (min xs.length len : Nat))) n k t bx' ow K))))))))) := by
  simp only [vcOp, ev_evo, frc_eq, kSl, kAnd, kAnd', x_src, sd, kSome_ex]
  all_goals (cases evo t dd with
    | d y => cases y <;> rfl
    | _ => rfl)
theorem x_s2a {m c x} : vcOp (.s2a m c x) d ⟨n, k, t, bx, own⟩ K KP = frc (evo t x) (fun v => kSl v (fun c' es => kAnd (c' = c ∨ es = []) (kAnd (m ≤ es.length) (kAnd (0 < m) (frc es.flatten (fun e => sd d (.ep e) n k t bx own K))))) (fun b o len _ => kAnd (m ≤ len) (sd d (.ptr b o) n k t bx own K))) := by
  simp only [vcOp, ev_evo, frc_eq, kSl, kAnd, kAnd', sd]
  cases evo t x with
  | d y => cases y <;> rfl
  | _ => rfl
theorem x_mkif {ty x} : vcOp (.mkif ty x) d ⟨n, k, t, bx, own⟩ K KP = frc (evo t x) (fun v => kMk v (fun ag cs => sd d (.d (.iface ty ag cs)) n k t bx own K)) := by
  simp only [vcOp, ev_evo, frc_eq, kMk, sd]
  cases evo t x with
  | agg cs => simp only; cases toDs cs <;> rfl
  | _ => rfl
def kTas (t : TypeId) (ok : Bool) (v : A) (K : A → Prop) : Prop := match v with
  | .d (.iface t' ag cs) => t' = t ∧ (match ag, cs with
      | true, cs => K (bif ok then .tup [.agg (cs.map .d), .d (.bool true)] else .agg (cs.map .d))
      | false, [y] => K (bif ok then .tup [.d y, .d (.bool true)] else .d y)
      | _, _ => False)
  | _ => False
theorem kTas_n {t t' ok cs} {K : A → Prop} : kTas t ok (.d (.iface t' true cs)) K = kAnd (t' = t) (frc (bif ok then .tup [.agg (cs.map .d), .d (.bool true)] else .agg (cs.map .d)) K) := id rfl
theorem kTas_1 {t t' ok y} {K : A → Prop} : kTas t ok (.d (.iface t' false [y])) K = kAnd (t' = t) (frc (bif ok then .tup [.d y, .d (.bool true)] else .d y) K) := id rfl
theorem x_tas {ty ok x} : vcOp (.tas ty ok x) d ⟨n, k, t, bx, own⟩ K KP = frc (evo t x) (fun v => kTas ty ok v (fun y => sd d y n k t bx own K)) := by
  simp only [vcOp, ev_evo, frc_eq, kTas, sd]
  cases evo t x with
  | d y => cases y with
    | iface t' ag cs =>
      simp only
      cases ag with
      | true => rfl
      | false => cases cs with
        | nil => rfl
        | cons z r => cases r <;> rfl
    | _ => rfl
  | _ => rfl
theorem x_panic {x} : vcOp (.panic x) d ⟨n, k, t, bx, own⟩ K KP = frc (evo t x) (fun v => kIfc v KP) := by
  simp only [vcOp, ev_evo, frc_eq, kIfc]
  cases evo t x with
  | d y => cases y <;> rfl
  | _ => rfl
theorem x_ext {x i} : vcOp (.ext x i) d ⟨n, k, t, bx, own⟩ K KP = frc (evo t x) (fun v => kTup v (fun vs => frc (vs[i]?) (fun y => kSome y (fun y => sd d y n k t bx own K)))) := by
  simp only [vcOp, ev_evo, frc_eq, kTup, kSome_ex, sd]
  cases evo t x <;> rfl
theorem evo_map {l : List Opd} : l.map (St.ev ⟨n, k, t, bx, own⟩) = l.map (evo t) := by
  rw [show (St.ev ⟨n, k, t, bx, own⟩) = evo t from funext fun x => ev_evo]
theorem x_clo {f caps} : vcOp (.clo f caps) d ⟨n, k, t, bx, own⟩ K KP = frc (caps.map (evo t)) (fun l => sd d (.clo f l) n k t bx own K) := by
  simp only [vcOp, evo_map, frc_eq, sd]

/-! ### Code, calls, ends -/

variable {P : Program} {ows : List (FuncId × Nat)} {Q : AX → St → Prop}

theorem v_skip {s} : vc P ows .skip s Q = Q .normal s := id rfl
theorem v_ret {s} : vc P ows .ret s Q = Q .ret s := id rfl
theorem v_exit {s i} : vc P ows (.exit i) s Q = Q (.exit i) s := id rfl
theorem v_label {s i} : vc P ows (.label i) s Q = Q .normal s := id rfl
theorem v_goto {s i} : vc P ows (.goto i) s Q = Q (.goto i) s := id rfl
theorem v_block {s i c} : vc P ows (.block i c) s Q = vc P ows c s (AX.blk i Q) := id rfl
theorem v_reg {s ops} : vc P ows (.reg ops) s Q = vcOps P ops s Q := id rfl
theorem v_loop {s c} : vc P ows (.loop c) s Q = kLoop P ows (.loop c) s Q ⟨⟩ ⟨⟩ ⟨⟩ := id rfl
theorem v_seq {s a b} : vc P ows (.seq a b) s Q = vc P ows a s (AX.thn (fun s' => vc P ows b s' Q) Q) := id rfl
theorem v_cond {x a b} : vc P ows (.cond x a b) ⟨n, k, t, bx, own⟩ Q = frc (evo t x) (fun v => kBool v (fun c => kIf c (vc P ows a ⟨n, k, t, bx, own⟩ Q) (vc P ows b ⟨n, k, t, bx, own⟩ Q))) := by
  simp only [vc, ev_evo, frc_eq, kBool, kIf, kIf']
  all_goals (cases evo t x with
    | d y => cases y <;> rfl
    | _ => rfl)
theorem thn_n {s} {L : St → Prop} : AX.thn L Q .normal s = L s := id rfl
theorem thn_e {s i} {L : St → Prop} : AX.thn L Q (.exit i) s = Q (.exit i) s := id rfl
theorem thn_g {s i} {L : St → Prop} : AX.thn L Q (.goto i) s = Q (.goto i) s := id rfl
theorem thn_r {s} {L : St → Prop} : AX.thn L Q .ret s = Q .ret s := id rfl
theorem thn_p {s x} {L : St → Prop} : AX.thn L Q (.panic x) s = Q (.panic x) s := id rfl
theorem blk_n {s i} : AX.blk i Q .normal s = Q .normal s := id rfl
theorem blk_e {s i j} : AX.blk i Q (.exit j) s = if j = i then Q .normal s else Q (.exit j) s := by
  by_cases h : j = i
  · subst h; simp [AX.blk]
  · have : (j == i) = false := by simpa using h
    simp [AX.blk, h, this]
theorem blk_g {s i j} : AX.blk i Q (.goto j) s = Q (.goto j) s := id rfl
theorem blk_r {s i} : AX.blk i Q .ret s = Q .ret s := id rfl
theorem blk_p {s i x} : AX.blk i Q (.panic x) s = Q (.panic x) s := id rfl

theorem o_nil {s} : vcOps P [] s Q = Q .normal s := id rfl
theorem o_op {d x r} : vcOps P (⟨d, none, .op x⟩ :: r) ⟨n, k, t, bx, own⟩ Q = vcOp x d ⟨n, k, t, bx, own⟩ (fun s' => vcOps P r s' Q) (fun y => Q (.panic y) ⟨n, k, t, bx, own⟩) := id rfl
theorem o_call {d f args po r} : vcOps P (⟨d, none, .call f args po⟩ :: r) ⟨n, k, t, bx, own⟩ Q = frc (args.map (evo t)) (fun l => vcCall P f l args po d ⟨n, k, t, bx, own⟩ (fun s' => vcOps P r s' Q) (fun y s' => Q (.panic y) s')) := by
  simp only [vcOps, vcOne, evo_map, frc_eq]
def kClo (v : A) (K : FuncId → List A → Prop) : Prop := match v with | .clo f cs => K f cs | _ => False
theorem kClo_clo {f cs K} : kClo (.clo f cs) K = K f cs := id rfl
theorem o_callv {d fn args r} : vcOps P (⟨d, none, .callv fn args⟩ :: r) ⟨n, k, t, bx, own⟩ Q = frc (evo t fn) (fun v => kClo v (fun f caps => kAnd (∃ fn, P.funcs[f]? = some fn ∧ fn.body.isSome = true ∧ fn.name ≠ "runtime.NumGoroutine")
    (frc (args.map (evo t) ++ caps) (fun l => vcCall P f l args none d ⟨n, k, t, bx, own⟩ (fun s' => vcOps P r s' Q) (fun y s' => Q (.panic y) s'))))) := by
  simp only [vcOps, vcOne, evo_map, ev_evo, frc_eq, kClo, kAnd, kAnd']
  cases evo t fn with
  | clo f caps => simp
  | _ => rfl
/-- A guard: its value is known, or its operation was passed over. -/
def kGd (v : A) (K : Bool → Prop) (K' : Prop) : Prop := match v with | .d (.bool c) => K c | .tup [] => K' | _ => False
theorem kGd_d {c K K'} : kGd (.d (.bool c)) K K' = K c := id rfl
theorem kGd_u {K K'} : kGd (.tup []) K K' = K' := id rfl
theorem vcOne_g {d g g' x s} {K : St → Prop} {KP : D → St → Prop} : vcOne P ⟨d, g, .op x⟩ s K KP = vcOne P ⟨d, g', .op x⟩ s K KP := id rfl
theorem o_gop {d x r j} : vcOps P (⟨d, some (j, true), .op x⟩ :: r) ⟨n, k, t, bx, own⟩ Q = frc (look j t) (fun v => kGd v (fun c =>
    kIf c (frc ((j, A.d (.bool true)) :: t) (fun t => vcOps P (⟨d, none, .op x⟩ :: r) ⟨n, k, t, bx, own⟩ Q)) (sd d (.tup []) n k ((j, .d (.bool false)) :: t) bx own (fun s => vcOps P r s Q)))
    (sd d (.tup []) n k t bx own (fun s => vcOps P r s Q))) := by
  simp only [vcOps, frc_eq, kGd, kIf, kIf', sd, St.know]
  cases look j t with
  | d y => cases y <;> (first | rfl | (rename_i b; cases b <;> simp [vcOne_g (g := some (j, true)) (g' := none)]))
  | tup l => cases l <;> rfl
  | _ => rfl
theorem o_gop' {d x r j} : vcOps P (⟨d, some (j, false), .op x⟩ :: r) ⟨n, k, t, bx, own⟩ Q = frc (look j t) (fun v => kGd v (fun c =>
    kIf c (sd d (.tup []) n k ((j, .d (.bool true)) :: t) bx own (fun s => vcOps P r s Q)) (frc ((j, A.d (.bool false)) :: t) (fun t => vcOps P (⟨d, none, .op x⟩ :: r) ⟨n, k, t, bx, own⟩ Q)))
    (sd d (.tup []) n k t bx own (fun s => vcOps P r s Q))) := by
  simp only [vcOps, frc_eq, kGd, kIf, kIf', sd, St.know]
  cases look j t with
  | d y => cases y <;> (first | rfl | (rename_i b; cases b <;> simp [vcOne_g (g := some (j, false)) (g' := none)]))
  | tup l => cases l <;> rfl
  | _ => rfl
theorem o_gcall {d f args po r j} : vcOps P (⟨d, some (j, true), .call f args po⟩ :: r) ⟨n, k, t, bx, own⟩ Q = frc (look j t) (fun v => kGd v (fun c =>
    kIf c (frc ((j, A.d (.bool true)) :: t) (fun t => vcOps P (⟨d, none, .call f args po⟩ :: r) ⟨n, k, t, bx, own⟩ Q)) (sd d (.tup []) n k ((j, .d (.bool false)) :: t) bx own (fun s => vcOps P r s Q)))
    (sd d (.tup []) n k t bx own (fun s => vcOps P r s Q))) := by
  simp only [vcOps, frc_eq, kGd, kIf, kIf', sd, St.know, vcOne]
  cases look j t with
  | d y => cases y <;> simp
  | tup l => cases l <;> rfl
  | _ => rfl
theorem o_gcall' {d f args po r j} : vcOps P (⟨d, some (j, false), .call f args po⟩ :: r) ⟨n, k, t, bx, own⟩ Q = frc (look j t) (fun v => kGd v (fun c =>
    kIf c (sd d (.tup []) n k ((j, .d (.bool true)) :: t) bx own (fun s => vcOps P r s Q)) (frc ((j, A.d (.bool false)) :: t) (fun t => vcOps P (⟨d, none, .call f args po⟩ :: r) ⟨n, k, t, bx, own⟩ Q)))
    (sd d (.tup []) n k t bx own (fun s => vcOps P r s Q))) := by
  simp only [vcOps, frc_eq, kGd, kIf, kIf', sd, St.know, vcOne]
  cases look j t with
  | d y => cases y <;> simp [and_comm]
  | tup l => cases l <;> rfl
  | _ => rfl

/-- The call itself, with all that is handed over. -/
theorem c_call {f args ops po d} {KP : D → St → Prop} : vcCall P f args ops po d ⟨n, k, t, bx, own⟩ K KP = kAnd (KB ≤ k) (frc (mkRen [] 0 args) (fun ρ => kAnd (okRen ρ = true) (frc (renL ρ args) (fun o => kSome o (fun args' => frc (passB ρ bx ρ) (fun o => kSome o (fun bx' =>
    frc (passT po own ops ++ passOB ρ own) (fun ow' => frc (keepOB ρ (keepT po own ops)) (fun kp => frc (flipN ρ) (fun φ => kCS P f args' bx' ow' (vcBack d ⟨n, k, t, bx, own⟩ φ kp K KP) ⟨⟩ ⟨⟩ ⟨⟩)))))))))) := by
  simp only [vcCall, frc_eq, kAnd, kAnd', kSome, kCS]
  congr 1
  cases okRen (mkRen [] 0 args) with
  | false => simp
  | true =>
    cases renL (mkRen [] 0 args) args with
    | none => simp
    | some a => cases passB (mkRen [] 0 args) bx (mkRen [] 0 args) <;> simp
theorem b_ret {d φ keep res b' ow'} {KP : D → St → Prop} : vcBack d ⟨n, k, t, bx, own⟩ φ keep K KP (.ret res b' ow') = frc (k + d.getD 0) (fun m => kAnd (lookB m bx = none) (frc (φ ++ newName φ m b') (fun ρb => frc (backB ρb bx b') (fun o => kSome o (fun bx' => frc (renL ρb res) (fun o => kSome o (fun res' =>
    frc (backO ρb d (isOne res') ow' ++ keepD d keep) (fun ow => frc (setT d (resA res') t) (fun t' => K ⟨n, k, t', bx', ow⟩))))))))) := by
  simp only [vcBack, frc_eq, kAnd, kAnd', kSome]
  congr 1
  cases backB (φ ++ newName φ (k + d.getD 0) b') bx b' with
  | none => rfl
  | some a => cases renL (φ ++ newName φ (k + d.getD 0) b') res <;> rfl
theorem b_pan {d φ keep x b'} {KP : D → St → Prop} : vcBack d ⟨n, k, t, bx, own⟩ φ keep K KP (.pan x b') = frc (backB φ bx b') (fun o => kSome o (fun bx' => KP x ⟨n, k, t, bx', []⟩)) := by
  simp only [vcBack, frc_eq, kSome]
  all_goals (cases backB φ bx b' <;> rfl)

theorem f_n {rs R s} : fnPost rs R .normal s = vcFin rs s R := id rfl
theorem f_r {rs R s} : fnPost rs R .ret s = vcFin rs s R := id rfl
theorem f_p {rs R s x} : fnPost rs R (.panic x) s = vcPan x s R := id rfl
theorem r_nil {s} {L : List A → Prop} : vcRes s [] L = L [] := id rfl
theorem r_t {i r} {L : List A → Prop} : vcRes ⟨n, k, t, bx, own⟩ (.t i :: r) L = frc (look i t) (fun v => vcRes ⟨n, k, t, bx, own⟩ r (fun l => L (v :: l))) := id rfl
theorem r_c1 {i m r} {L : List A → Prop} : vcRes ⟨n, k, t, bx, own⟩ (.c i false m :: r) L = frc (look i t) (fun v => kPlace v (fun b o => frc (lookB b bx) (fun q => kSome q (fun cs => frc (cs[o]?) (fun q => kSome q (fun y => vcRes ⟨n, k, t, bx, own⟩ r (fun l => L (y :: l))))))) (fun _ => False)) := by
  simp only [vcRes, frc_eq, kPlace, kSome_ex]
  cases look i t with
  | ptr b o => simp only; cases lookB b bx <;> rfl
  | _ => rfl
theorem r_ca {i m r} {L : List A → Prop} : vcRes ⟨n, k, t, bx, own⟩ (.c i true m :: r) L = frc (look i t) (fun v => kPlace v (fun b o => frc (lookB b bx) (fun q => kSome q (fun cs => kAnd (o + m ≤ cs.length) (frc ((cs.drop o).take m) (fun y => vcRes ⟨n, k, t, bx, own⟩ r (fun l => L (.agg y :: l))))))) (fun _ => False)) := by
  simp only [vcRes, frc_eq, kPlace, kSome, kAnd, kAnd']
  cases look i t with
  | ptr b o => simp only; cases lookB b bx <;> rfl
  | _ => rfl
theorem f_fin {rs R} : vcFin rs ⟨n, k, t, bx, own⟩ R = vcRes ⟨n, k, t, bx, own⟩ rs (fun res => frc (idOld bx ++ idRef res) (fun ρ => frc (renL ρ res) (fun o => kSome o (fun res' => frc (passB ρ bx ρ) (fun o => kSome o (fun bx' =>
    frc (passT (resPo own 0 rs) own (resOps rs) ++ passOB ρ own) (fun ow => R (.ret res' bx' ow)))))))) := by
  simp only [vcFin, frc_eq, kSome]
  congr 1
  funext res
  cases renL (idOld bx ++ idRef res) res with
  | none => rfl
  | some a => cases passB (idOld bx ++ idRef res) bx (idOld bx ++ idRef res) <;> rfl
theorem f_pan {x R} : vcPan x ⟨n, k, t, bx, own⟩ R = frc (passB (idOld bx) bx (idOld bx)) (fun o => kSome o (fun bx' => R (.pan x bx'))) := by
  simp only [vcPan, frc_eq, kSome]
  all_goals (cases passB (idOld bx) bx (idOld bx) <;> rfl)

/-! Names -/
theorem findN_nil {x} : findN [] x = none := id rfl
theorem findN_c {m p x r} : findN ((m, p) :: r) x = if x = m then some p else findN r x := findN_cons m p x r
theorem hasN_nil {x} : hasN [] x = false := id rfl
theorem hasN_c {m p x r} : hasN ((m, p) :: r) x = if x = m then true else hasN r x := by
  by_cases h : x = m
  · subst h; simp [hasN]
  · have : (x == m) = false := by simpa using h
    simp [hasN, h, this]
theorem flipN_nil : flipN [] = [] := id rfl
theorem flipN_c {m p r} : flipN ((m, p) :: r) = (p, m) :: flipN r := id rfl
theorem okRen_nil : okRen [] = true := id rfl
theorem okRen_c {m p r} : okRen ((m, p) :: r) = (!(hasN r m) && !(hasN (flipN r) p) && decide (p < KB) && okRen r) := by
  have : Nat.blt p KB = decide (p < KB) := by
    rw [Bool.eq_iff_iff]; simp
  show (!(hasN r m) && !(hasN (flipN r) p) && Nat.blt p KB && okRen r) = _
  rw [this]
theorem mkRen_nil {ρ i} : mkRen ρ i [] = ρ := id rfl
theorem mkRen_any {ρ i l} : mkRen ρ i (.any :: l) = mkRen ρ (i + 1) l := id rfl
theorem mkRen_d {ρ i x l} : mkRen ρ i (.d x :: l) = mkRen ρ (i + 1) l := id rfl
theorem mkRen_agg {ρ i x l} : mkRen ρ i (.agg x :: l) = mkRen ρ (i + 1) l := id rfl
theorem mkRen_tup {ρ i x l} : mkRen ρ i (.tup x :: l) = mkRen ρ (i + 1) l := id rfl
theorem mkRen_ep {ρ i x l} : mkRen ρ i (.ep x :: l) = mkRen ρ (i + 1) l := id rfl
theorem mkRen_ptr {ρ i m o l} : mkRen ρ i (.ptr m o :: l) = mkRen (bif hasN ρ m then ρ else ρ ++ [(m, i)]) (i + 1) l := id rfl
theorem mkRen_bsl {ρ i m o c c' l} : mkRen ρ i (.bsl m o c c' :: l) = mkRen (bif hasN ρ m then ρ else ρ ++ [(m, i)]) (i + 1) l := id rfl
theorem mkRen_clo {ρ i f cs l} : mkRen ρ i (.clo f cs :: l) = mkRen (mkCaps ρ (20 * (i + 1)) 0 cs) (i + 1) l := id rfl
theorem mkCaps_nil {ρ b j} : mkCaps ρ b j [] = ρ := id rfl
theorem mkCaps_ptr {ρ b j m o l} : mkCaps ρ b j (.ptr m o :: l) = mkCaps (bif hasN ρ m then ρ else ρ ++ [(m, b + j)]) b (j + 1) l := id rfl
theorem mkCaps_d {ρ b j x l} : mkCaps ρ b j (.d x :: l) = mkCaps ρ b (j + 1) l := id rfl
theorem mkCaps_clo {ρ b j f cs l} : mkCaps ρ b j (.clo f cs :: l) = mkCaps ρ b (j + 1) l := id rfl
theorem renA_any {ρ} : renA ρ .any = some .any := id rfl
theorem renA_d {ρ x} : renA ρ (.d x) = some (.d x) := id rfl
theorem renA_ep {ρ x} : renA ρ (.ep x) = some (.ep x) := id rfl
theorem renA_ptr {ρ m o} : renA ρ (.ptr m o) = (findN ρ m).map (fun n => .ptr n o) := by
  show (match findN ρ m with | some n => some (A.ptr n o) | none => none) = _
  cases findN ρ m <;> rfl
theorem renA_bsl {ρ m o l c} : renA ρ (.bsl m o l c) = (findN ρ m).map (fun n => .bsl n o l c) := by
  show (match findN ρ m with | some n => some (A.bsl n o l c) | none => none) = _
  cases findN ρ m <;> rfl
theorem renA_agg {ρ cs} : renA ρ (.agg cs) = (renL ρ cs).map .agg := by
  show (match renL ρ cs with | some l => some (A.agg l) | none => none) = _
  cases renL ρ cs <;> rfl
theorem renA_tup {ρ cs} : renA ρ (.tup cs) = (renL ρ cs).map .tup := by
  show (match renL ρ cs with | some l => some (A.tup l) | none => none) = _
  cases renL ρ cs <;> rfl
theorem renA_clo {ρ f cs} : renA ρ (.clo f cs) = (renL ρ cs).map (.clo f) := by
  show (match renL ρ cs with | some l => some (A.clo f l) | none => none) = _
  cases renL ρ cs <;> rfl
theorem renL_nil {ρ} : renL ρ [] = some [] := id rfl
theorem renL_c {ρ x l} : renL ρ (x :: l) = (renA ρ x).bind (fun y => (renL ρ l).map (y :: ·)) := by
  show (match renA ρ x, renL ρ l with | some y, some m => some (y :: m) | _, _ => none) = _
  cases renA ρ x with
  | none => rfl
  | some y => cases renL ρ l <;> rfl
theorem bind_some' {α β : Type} {f : α → Option β} {x : α} : (some x).bind f = f x := id rfl
theorem passB_nil {ρ bx} : passB ρ bx [] = some [] := id rfl
theorem passB_c {ρ bx m p r} : passB ρ bx ((m, p) :: r) = (lookB m bx).bind (fun cs => (renL ρ cs).bind (fun cs' => (passB ρ bx r).map ((p, cs') :: ·))) := by
  show (match lookB m bx, passB ρ bx r with | some cs, some l => (match renL ρ cs with | some cs' => some ((p, cs') :: l) | none => none) | _, _ => none) = _
  cases lookB m bx with
  | none => rfl
  | some cs => cases passB ρ bx r with
    | none => simp
    | some l => simp only [Option.bind_some, Option.map_some]; cases renL ρ cs <;> rfl
theorem passT_none {own ops} : passT none own ops = [] := id rfl
theorem passT_some {i own ops} : passT (some i) own ops = (match ops[i]? with | some (.t j) => (match ownOf j own with | some c => [(.t i, c)] | none => []) | _ => []) := id rfl
theorem passOB_nil' {ρ} : passOB ρ [] = [] := id rfl
theorem passOB_t {ρ i c l} : passOB ρ ((.t i, c) :: l) = passOB ρ l := id rfl
theorem passOB_b {ρ m o c l} : passOB ρ ((.b m o, c) :: l) = (match findN ρ m with | some p => (.b p o, c) :: passOB ρ l | none => passOB ρ l) := id rfl
theorem keepT_none {own ops} : keepT none own ops = own := id rfl
theorem keepT_some {i own ops} : keepT (some i) own ops = (match ops[i]? with | some (.t j) => dropOt j own | _ => own) := id rfl
theorem keepOB_nil {ρ} : keepOB ρ [] = [] := id rfl
theorem keepOB_t {ρ i c l} : keepOB ρ ((.t i, c) :: l) = (.t i, c) :: keepOB ρ l := id rfl
theorem keepOB_b {ρ m o c l} : keepOB ρ ((.b m o, c) :: l) = bif hasN ρ m then keepOB ρ l else (.b m o, c) :: keepOB ρ l := id rfl
theorem newName_nil {φ nm} : newName φ nm [] = [] := id rfl
theorem newName_c {φ nm p cs l} : newName φ nm ((p, cs) :: l) = bif hasN φ p then newName φ nm l else [(p, nm)] := id rfl
theorem backB_nil {ρ bx} : backB ρ bx [] = some bx := id rfl
theorem backB_c {ρ bx p cs l} : backB ρ bx ((p, cs) :: l) = (backB ρ bx l).bind (fun r => (match findN ρ p with | none => some r | some m => (renL ρ cs).bind (fun cs' => (match lookB m r with | some _ => some (setB m cs' r) | none => some ((m, cs') :: r))))) := by
  simp only [backB]
  cases backB ρ bx l with
  | none => rfl
  | some r => simp only [Option.bind_some]; cases findN ρ p with
    | none => rfl
    | some m => simp only; cases renL ρ cs <;> rfl
theorem backO_nil {ρ d one} : backO ρ d one [] = [] := id rfl
theorem backO_t0 {ρ d c l} : backO ρ (some d) true ((.t 0, c) :: l) = (.t d, c) :: backO ρ (some d) true l := id rfl
theorem backO_f {ρ d i c l} : backO ρ d false ((.t i, c) :: l) = backO ρ d false l := by cases d <;> rfl
theorem backO_n {ρ one i c l} : backO ρ none one ((.t i, c) :: l) = backO ρ none one l := by rfl
theorem backO_b {ρ d one p o c l} : backO ρ d one ((.b p o, c) :: l) = (match findN ρ p with | some m => (.b m o, c) :: backO ρ d one l | none => backO ρ d one l) := id rfl
theorem keepD_n {l} : keepD none l = l := id rfl
theorem keepD_s {d l} : keepD (some d) l = dropOt d l := id rfl
theorem setT_n {x t} : setT none x t = t := id rfl
theorem setT_s {d x t} : setT (some d) x t = (d, x) :: t := id rfl
theorem resA_1 {x} : resA [x] = x := id rfl
theorem resA_0 : resA [] = .tup [] := id rfl
theorem resA_2 {x y l} : resA (x :: y :: l) = .tup (x :: y :: l) := id rfl
theorem isOne_1 {x} : isOne [x] = true := id rfl
theorem isOne_0 : isOne [] = false := id rfl
theorem isOne_2 {x y l} : isOne (x :: y :: l) = false := id rfl
theorem resPo_nil {own i} : resPo own i [] = none := id rfl
theorem resPo_t {own i j r} : resPo own i (.t j :: r) = (match ownOf j own with | some _ => some i | none => resPo own (i + 1) r) := id rfl
theorem resPo_c {own i j ag m r} : resPo own i (.c j ag m :: r) = resPo own (i + 1) r := id rfl
theorem resOps_nil : resOps [] = [] := id rfl
theorem resOps_t {j r} : resOps (.t j :: r) = .t j :: resOps r := id rfl
theorem resOps_c {j ag m r} : resOps (.c j ag m :: r) = .c .any :: resOps r := id rfl
theorem idOld_nil : idOld [] = [] := id rfl
theorem idOld_c {m cs r} : idOld ((m, cs) :: r) = if m < KB then (m, m) :: idOld r else idOld r := by
  have : Nat.blt m KB = decide (m < KB) := by
    rw [Bool.eq_iff_iff]; simp
  show (bif Nat.blt m KB then _ else _) = _
  rw [this]
  by_cases h : m < KB <;> simp [h]
theorem idRef_nil : idRef [] = [] := id rfl
theorem idRef_ptr {m o r} : idRef (.ptr m o :: r) = (m, m) :: idRef r := id rfl
theorem idRef_d {x r} : idRef (.d x :: r) = idRef r := id rfl
theorem idRef_any {r} : idRef (.any :: r) = idRef r := id rfl
theorem idRef_agg {x r} : idRef (.agg x :: r) = idRef r := id rfl
theorem idRef_tup {x r} : idRef (.tup x :: r) = idRef r := id rfl
theorem idRef_clo {f x r} : idRef (.clo f x :: r) = idRef r := id rfl
theorem idRef_ep {x r} : idRef (.ep x :: r) = idRef r := id rfl
theorem idRef_bsl {a b c e r} : idRef (.bsl a b c e :: r) = idRef r := id rfl
theorem KB_eq : KB = 1000 := id rfl
theorem eqCells_nil : eqCells [] [] [] = some true := id rfl
theorem eqCells_c {q ks x l y m} : eqCells (q :: ks) (x :: l) (y :: m) = (eqCell q x y).bind (fun a => (eqCells ks l m).map (a && ·)) := by
  show (match eqCell q x y, eqCells ks l m with | some a, some b => some (a && b) | _, _ => none) = _
  cases eqCell q x y with
  | none => rfl
  | some a => cases eqCells ks l m <;> rfl
theorem eqCell_0 {a b} : eqCell 0 (.d (.bool a)) (.d (.bool b)) = some (a == b) := id rfl
theorem eqCell_1 {q a b} : eqCell 1 (.d (.int q a)) (.d (.int q b)) = some (a == b) := by simp [eqCell]
theorem eqCell_2 {a b} : eqCell 2 (.d (.str a)) (.d (.str b)) = some (a == b) := id rfl
theorem isCell_d {x} : isCell (.d x) = true := id rfl
theorem isCell_ptr {m o} : isCell (.ptr m o) = true := id rfl
theorem isCell_clo {f cs} : isCell (.clo f cs) = true := id rfl
theorem isCell_bsl {a b c e} : isCell (.bsl a b c e) = true := id rfl
theorem isCell_ful {c e} : isCell (.ful c e) = true := id rfl
theorem renA_ful {ρ c e} : renA ρ (.ful c e) = some (.ful c e) := id rfl
theorem cellsOfA_ful {c e} : cellsOfA (.ful c e) = some [.ful c e] := id rfl
theorem mkRen_fl {ρ i c e l} : mkRen ρ i (.ful c e :: l) = mkRen ρ (i + 1) l := id rfl
theorem idRef_fl {c e r} : idRef (.ful c e :: r) = idRef r := id rfl
theorem plB_1 {cs} : plB 1 cs = cs.map plainA := id rfl
theorem plB_n {c cs} : plB (c + 2) cs = cs := by simp [plB]
theorem plO_1 {m cs} : plO 1 m cs = fulOwn m 0 cs := id rfl
theorem plO_n {c m cs} : plO (c + 2) m cs = [] := by simp [plO]
theorem plainA_d {x} : plainA (.d x) = .d x := id rfl
theorem plainA_any : plainA .any = .any := id rfl
theorem plainA_ptr {a b} : plainA (.ptr a b) = .ptr a b := id rfl
theorem plainA_agg {a} : plainA (.agg a) = .agg a := id rfl
theorem plainA_clo {a b} : plainA (.clo a b) = .clo a b := id rfl
theorem plainA_bsl {a b c e} : plainA (.bsl a b c e) = .bsl a b c e := id rfl
theorem plainA_ep {a} : plainA (.ep a) = .ep a := id rfl
theorem plainA_nil {a} : plainA (.nil a) = .nil a := id rfl
theorem plainA_ful {c e} : plainA (.ful c e) = .d (.sl c e) := id rfl
theorem fulOwn_n {m i} : fulOwn m i [] = [] := id rfl
theorem fulOwn_d {m i x l} : fulOwn m i (.d x :: l) = fulOwn m (i + 1) l := id rfl
theorem fulOwn_any {m i l} : fulOwn m i (.any :: l) = fulOwn m (i + 1) l := id rfl
theorem fulOwn_ptr {m i a b l} : fulOwn m i (.ptr a b :: l) = fulOwn m (i + 1) l := id rfl
theorem fulOwn_clo {m i a b l} : fulOwn m i (.clo a b :: l) = fulOwn m (i + 1) l := id rfl
theorem fulOwn_bsl {m i a b c e l} : fulOwn m i (.bsl a b c e :: l) = fulOwn m (i + 1) l := id rfl
theorem fulOwn_ep {m i a l} : fulOwn m i (.ep a :: l) = fulOwn m (i + 1) l := id rfl
theorem fulOwn_nil {m i a l} : fulOwn m i (.nil a :: l) = fulOwn m (i + 1) l := id rfl
theorem fulOwn_ful {m i c e l} : fulOwn m i (.ful c e :: l) = (.b m i, c) :: fulOwn m (i + 1) l := id rfl
theorem isCell_nil {c} : isCell (.nil c) = true := id rfl
theorem renA_nil {ρ c} : renA ρ (.nil c) = some (.nil c) := id rfl
theorem cellsOfA_nil {c} : cellsOfA (.nil c) = some [.nil c] := id rfl
theorem mkRen_nl {ρ i c l} : mkRen ρ i (.nil c :: l) = mkRen ρ (i + 1) l := id rfl
theorem idRef_nl {c r} : idRef (.nil c :: r) = idRef r := id rfl
theorem isCell_ep {e} : isCell (.ep e) = true := id rfl
theorem ite_true' {α : Type} {a b : α} : (if True then a else b) = a := id rfl
end
theorem frzA_any {m ds} : frzA m ds .any = .any := id rfl
theorem frzA_d {m ds x} : frzA m ds (.d x) = .d x := id rfl
theorem frzA_ep {m ds x} : frzA m ds (.ep x) = .ep x := id rfl
theorem frzA_ptr {m ds n o} : frzA m ds (.ptr n o) = if n = m then .ep (ds.drop o) else .ptr n o := by simp only [frzA]
theorem frzA_bsl {m ds n o l c} : frzA m ds (.bsl n o l c) = if n = m then (if l ≤ c ∧ l ≤ maxL ∧ o + l ≤ ds.length then .d (.sl 1 (((ds.drop o).take l).map fun x => [x])) else .any) else .bsl n o l c := by simp only [frzA]
theorem frzA_agg {m ds cs} : frzA m ds (.agg cs) = .agg (frzL m ds cs) := by simp only [frzA]
theorem frzA_tup {m ds cs} : frzA m ds (.tup cs) = .tup (frzL m ds cs) := by simp only [frzA]
theorem frzA_clo {m ds f cs} : frzA m ds (.clo f cs) = .clo f (frzL m ds cs) := by simp only [frzA]
theorem frzL_nil {m ds} : frzL m ds [] = [] := by simp only [frzL]
theorem frzL_c {m ds x l} : frzL m ds (x :: l) = frzA m ds x :: frzL m ds l := by simp only [frzL]
theorem frzT_nil {m ds} : frzT m ds [] = [] := id rfl
theorem frzT_c {m ds i x l} : frzT m ds ((i, x) :: l) = (i, frzA m ds x) :: frzT m ds l := id rfl
theorem frzB_nil {m ds} : frzB m ds [] = [] := id rfl
theorem frzB_c {m ds n cs l} : frzB m ds ((n, cs) :: l) = if n = m then frzB m ds l else (n, frzL m ds cs) :: frzB m ds l := id rfl
theorem frzO_nil {m} : frzO m [] = [] := id rfl
theorem frzO_t {m i c l} : frzO m ((.t i, c) :: l) = (.t i, c) :: frzO m l := id rfl
theorem frzO_b {m n o c l} : frzO m ((.b n o, c) :: l) = if n = m then frzO m l else (.b n o, c) :: frzO m l := id rfl
attribute [go_sem] frzA_any frzA_d frzA_ep frzA_ptr frzA_bsl frzA_agg frzA_tup frzA_clo frzL_nil frzL_c frzT_nil frzT_c frzB_nil frzB_c frzO_nil frzO_t frzO_b

attribute [irreducible] fz
/-! Known at once: what follows is not looked at before it is known. -/
theorem kSome_somep {α : Type} {a : α} {K : α → Prop} : kSome (some a) K = K a := id rfl
theorem kSome_nonep {α : Type} {K : α → Prop} : kSome (none : Option α) K = False := id rfl
theorem kOpt_somep {α : Type} {a : α} {K : α → Prop} {K'} : kOpt (some a) K K' = K a := id rfl
theorem kOpt_nonep {α : Type} {K : α → Prop} {K'} : kOpt (none : Option α) K K' = K' := id rfl
attribute [go_sem ↓] kSome_somep kSome_nonep kOpt_somep kOpt_nonep
attribute [go_sem ↓] kIf_def kAnd_def kImp_def frc_def sd_none sd_some so_some kBool_d kInt_d kStr_d kPlace_ptr kPlace_ep kSl_d
  kSl_bsl kAgg_agg kTup_tup kNn_ptr kNn_ep kNn_clo kBin_add kBin_sub kBin_mul kBin_quo
  kBin_rem kBin_and kBin_or kBin_xor kBin_andNot kBin_shl kBin_shr kBin_eql kBin_neq kBin_lss
  kBin_leq kBin_gtr kBin_geq kBin_str vcStr_add vcStr_eql vcStr_neq vcStr_lss vcStr_leq vcStr_gtr
  vcStr_geq kNil_ptr kNil_ep kNil_nilp kNil_nilif kNil_iface kNil_clo kNil_nilfn kSrc_d kSrc_str
  plainA_d plainA_ptr plainA_agg plainA_any plainA_clo plainA_bsl plainA_ep plainA_nil plainA_ful fulOwn_n fulOwn_d fulOwn_ptr fulOwn_any fulOwn_clo fulOwn_bsl fulOwn_ep fulOwn_nil fulOwn_ful renA_ful cellsOfA_ful isCell_ful mkRen_fl idRef_fl List.map_cons List.map_nil x_bslf kCv_bsl plB_1 plB_n plO_1 plO_n
  kSrc_bsl kMk_d kMk_agg kIfc_d x_mv x_mvc x_mvt x_nil x_pick x_alloc
  x_box x_build x_bslc x_load1 x_loadt x_loada x_store x_nilck x_bin x_binB
  x_isnil x_idn x_eqs x_not x_neg x_cpl x_cvi x_cvb x_cvs x_cvl x_fa
  x_flda x_fld1 x_ixa x_ixs x_ixv1 x_ixva x_ixc x_len x_lenS x_lenA
  x_bounds x_slc x_slct x_sla x_sls x_src x_appt x_appc x_cpy x_s2a
  kTas_n kTas_1 x_tas x_mkif x_panic x_ext x_clo v_skip v_ret v_exit v_label v_goto v_block
  v_reg v_loop v_seq v_cond thn_n thn_e thn_g thn_r thn_p blk_n
  blk_e blk_g blk_r blk_p o_nil o_op o_call kClo_clo o_callv kGd_d
  kGd_u o_gop o_gop' o_gcall o_gcall' c_call b_ret b_pan f_n f_r
  f_p r_nil r_t r_c1 r_ca f_fin f_pan
attribute [go_sem] ownOf_nil' fz_eq kIf_true kIf_false kAnd_true kAnd_false kImp_true kImp_false evo_t evo_c look_nil
  look_cons' lookB_nil lookB_cons' dropOt_nil dropOt_t dropOt_b ownOf_t ownOf_b ownOfB_nil ownOfB_t
  ownOfB_b dropOc_nil dropOc_t dropOc_b dropOr_nil dropOr_t dropOr_b setB_nil setB_cons lay_nil
  lay_cons cellsOfA_d cellsOfA_ptr cellsOfA_agg cellsOfA_clo cellsOfA_bsl cellsOfA_ep cellsOfA_any cellsOfA_tup toDs_nil
  toDs_cons map_some' evs_nil evs_cons joinE_nil joinE_cons fillA_nil fillA_cons chunk_zero chunk_succ
  enumA_nil enumA_cons kSome_some kSome_none kOpt_some kOpt_none kBd_nn kBd_sn kBd_ns kBd_ss
  findN_nil findN_c hasN_nil hasN_c flipN_nil flipN_c okRen_nil okRen_c mkRen_nil mkRen_any
  mkRen_d mkRen_agg mkRen_tup mkRen_ep mkRen_ptr mkRen_bsl mkRen_clo mkCaps_nil mkCaps_ptr mkCaps_d
  mkCaps_clo renA_any renA_d renA_ep renA_ptr renA_bsl renA_agg renA_tup renA_clo renL_nil
  renL_c bind_some' passB_nil passB_c passT_none passT_some passOB_t passOB_b keepT_none keepT_some
  keepOB_nil keepOB_t keepOB_b newName_nil newName_c backB_nil backB_c backO_nil backO_t0 backO_f
  backO_n backO_b keepD_n keepD_s setT_n setT_s resA_1 resA_0 resA_2 isOne_1
  isOne_0 isOne_2 resPo_nil resPo_t resPo_c resOps_nil resOps_t resOps_c idOld_nil idOld_c
  idRef_nil idRef_ptr idRef_d idRef_any idRef_agg idRef_tup idRef_clo idRef_ep idRef_bsl eqCells_nil
  eqCells_c eqCell_0 eqCell_1 eqCell_2 isCell_d isCell_ptr isCell_clo isCell_bsl isCell_ep isCell_nil renA_nil cellsOfA_nil mkRen_nl idRef_nl ite_true'
  KB_eq passOB_nil List.length_cons List.length_nil List.drop_zero List.drop_succ_cons List.take_zero List.take_succ_cons List.drop_nil List.take_nil List.set_cons_zero
  List.set_cons_succ List.getElem?_cons_zero List.getElem?_cons_succ List.nil_append List.append_nil List.cons_append List.map_cons List.map_nil List.all_cons List.all_nil
  Bool.and_true Bool.true_and Bool.and_false Bool.false_and Bool.not_true Bool.not_false cond_true cond_false and_true true_and
  and_self true_or or_true Option.some.injEq Nat.zero_add Nat.add_zero Nat.mul_one Nat.zero_mul Nat.one_mul Option.getD_some
  Option.getD_none List.flatten_cons List.flatten_nil List.replicate_succ List.replicate_zero Option.map_some Option.map_none Option.bind_some
end Go.Vx

/- One state for another: less is known, boxes are dropped. -/
namespace Go.Vx
set_option linter.unusedVariables false
set_option linter.unusedSimpArgs false
open Go
set_option linter.unusedVariables false
set_option linter.unusedSimpArgs false

mutual
/-- All boxes that are named lie in a list. -/
def okA (dom : List Nat) : A → Bool
  | .any => true
  | .d _ => true
  | .ptr n _ => memN n dom
  | .agg cs => okL dom cs
  | .clo _ cs => okL dom cs
  | .tup cs => okL dom cs
  | .bsl n _ _ _ => memN n dom
  | .ep _ => true
  | .nil _ => true
  | .ful _ _ => true
def okL (dom : List Nat) : List A → Bool
  | [] => true
  | x :: l => okA dom x && okL dom l
end

theorem okL_get {dom : List Nat} : ∀ {l : List A} {i : Nat} {x : A}, okL dom l = true → l[i]? = some x → okA dom x = true := by
  intro l
  induction l with
  | nil => intro i x _ h; simp at h
  | cons y l ih =>
    intro i x h hx
    simp only [okL, Bool.and_eq_true] at h
    cases i with
    | zero => simp only [List.getElem?_cons_zero, Option.some.injEq] at hx; subst hx; exact h.1
    | succ i => exact ih h.2 (by simpa using hx)

def resN (dom : List Nat) (β : Names) : Names := fun n => if memN n dom = true then β n else none

theorem okA_ra {σ : Store} {β : Names} {dom : List Nat} {x : A} {v : Value} (h : RA σ β x v) : okA dom x = true → RA σ (resN dom β) x v := by
  induction h with
  | any v => intro _; exact .any v
  | d x v h => intro _; exact .d x v h
  | ptr n off b h => intro hk; exact .ptr n off b (by simp only [resN]; rw [if_pos (by simpa [okA] using hk)]; exact h)
  | agg cs vs hn _ ih => intro hk; simp only [okA] at hk; exact .agg cs vs hn (fun i x hx => ih i x hx (okL_get hk hx))
  | clo f cs vs hn _ ih => intro hk; simp only [okA] at hk; exact .clo f cs vs hn (fun i x hx => ih i x hx (okL_get hk hx))
  | tup cs vs hn _ ih => intro hk; simp only [okA] at hk; exact .tup cs vs hn (fun i x hx => ih i x hx (okL_get hk hx))
  | bsl n off len cap b h => intro hk; exact .bsl n off len cap b (by simp only [resN]; rw [if_pos (by simpa [okA] using hk)]; exact h)
  | ep e b off f hs hr => intro _; exact .ep e b off f hs hr
  | nil c => intro _; exact .nil c
  | ful c es v h hf => intro _; exact .ful c es v h hf

def domB : List (Nat × List A) → List Nat
  | [] => []
  | (n, _) :: l => n :: domB l

theorem memN_iff {i : Nat} : ∀ {l : List Nat}, memN i l = true ↔ i ∈ l := by
  intro l
  induction l with
  | nil => simp [memN]
  | cons j l ih =>
    simp only [memN]
    by_cases h : i = j
    · subst h; simp
    · have : Nat.beq i j = false := by
        cases hb : Nat.beq i j with
        | false => rfl
        | true => exact absurd (Nat.eq_of_beq_eq_true hb) h
      simp [this, ih, h]

theorem domB_look {n : Nat} : ∀ {l : List (Nat × List A)}, memN n (domB l) = true → ∃ cs, lookB n l = some cs := by
  intro l
  induction l with
  | nil => intro h; simp [domB, memN] at h
  | cons p l ih =>
    obtain ⟨m, cs⟩ := p
    intro h
    rw [lookB_cons]
    by_cases e : n = m
    · subst e; exact ⟨cs, by simp⟩
    · rw [if_neg e]
      exact ih (by rw [memN_iff] at h ⊢; simpa [domB, e] using h)

theorem domB_of {n : Nat} {cs : List A} : ∀ {l : List (Nat × List A)}, lookB n l = some cs → memN n (domB l) = true := by
  intro l
  induction l with
  | nil => intro h; simp [lookB] at h
  | cons p l ih =>
    obtain ⟨m, ds⟩ := p
    intro h
    rw [lookB_cons] at h
    rw [memN_iff]
    by_cases e : n = m
    · subst e; simp [domB]
    · rw [if_neg e] at h
      have := ih h
      rw [memN_iff] at this
      exact .tail _ this

/-- Each temporary that stays known holds what it held. -/
def wkT (t : List (Nat × A)) : List (Nat × A) → Prop
  | [] => True
  | (i, x) :: r => look i t = x ∧ wkT t r
def wkC : List A → List A → Prop
  | [], [] => True
  | x :: l, y :: m => (y = .any ∨ x = y ∨ ∃ c c', x = .nil c ∧ y = .d (.sl c' [])) ∧ wkC l m
  | _, _ => False
def wkB (bx : List (Nat × List A)) : List (Nat × List A) → Prop
  | [] => True
  | (m, cs) :: r => kSome (lookB m bx) (fun ds => wkC ds cs) ∧ wkB bx r
def isNl : A → Bool
  | .nil _ => true
  | _ => false
/-- A cell that holds nil. -/
def nilAt (n o : Nat) (bx : List (Nat × List A)) : Bool := (((lookB n bx).bind (fun cs => cs[o]?)).map isNl).getD false
def wkO (own : List (Loc × Nat)) (bx : List (Nat × List A)) (dom : List Nat) : List (Loc × Nat) → Prop
  | [] => True
  | (.t i, c) :: r => ownOf i own = some c ∧ wkO own bx dom r
  | (.b n o, c) :: r => ((ownOfB n o own = some c ∨ nilAt n o bx = true) ∧ memN n dom = true) ∧ wkO own bx dom r
def wkD (k : Nat) (dom : List Nat) : List (Nat × List A) → Prop
  | [] => True
  | (m, _) :: r => (memN m dom = true ∨ k ≤ m) ∧ wkD k dom r
def okT (dom : List Nat) : List (Nat × A) → Bool
  | [] => true
  | (_, x) :: r => okA dom x && okT dom r
def okB (dom : List Nat) : List (Nat × List A) → Bool
  | [] => true
  | (_, cs) :: r => okL dom cs && okB dom r

theorem wkT_spec {t : List (Nat × A)} {dom : List Nat} : ∀ {t' : List (Nat × A)}, wkT t t' → okT dom t' = true → ∀ i, (look i t' = .any ∨ look i t = look i t') ∧ okA dom (look i t') = true := by
  intro t'
  induction t' with
  | nil => intro _ _ i; exact ⟨.inl rfl, by simp [look, okA]⟩
  | cons p r ih =>
    obtain ⟨j, x⟩ := p
    intro h ho i
    simp only [okT, Bool.and_eq_true] at ho
    rw [look_cons]
    split
    · rename_i e; subst e; exact ⟨.inr h.1, ho.1⟩
    · exact ih h.2 ho.2 i

theorem wkC_spec : ∀ {l m : List A}, wkC l m → l.length = m.length ∧ ∀ (i : Nat) y, m[i]? = some y → y = .any ∨ l[i]? = some y ∨ ∃ c c', l[i]? = some (.nil c) ∧ y = .d (.sl c' []) := by
  intro l
  induction l with
  | nil => intro m h; cases m with
    | nil => simp
    | cons y m => cases h
  | cons x l ih =>
    intro m h
    cases m with
    | nil => cases h
    | cons y m =>
      obtain ⟨h1, h2⟩ := h
      obtain ⟨i1, i2⟩ := ih h2
      refine ⟨by simp [i1], fun i z hz => ?_⟩
      cases i with
      | zero =>
        simp only [List.getElem?_cons_zero, Option.some.injEq] at hz ⊢
        subst hz
        exact h1
      | succ i => exact i2 i z (by simpa using hz)

theorem wkB_spec {bx : List (Nat × List A)} {dom : List Nat} : ∀ {bx' : List (Nat × List A)}, wkB bx bx' → okB dom bx' = true → ∀ n cs, lookB n bx' = some cs → okL dom cs = true ∧ ∃ ds, lookB n bx = some ds ∧ wkC ds cs := by
  intro bx'
  induction bx' with
  | nil => intro _ _ n cs h; simp [lookB] at h
  | cons p r ih =>
    obtain ⟨m, es⟩ := p
    intro h ho n cs hn
    simp only [okB, Bool.and_eq_true] at ho
    rw [lookB_cons] at hn
    split at hn
    · rename_i e
      subst e
      cases hn
      obtain ⟨h1, _⟩ := h
      refine ⟨ho.1, ?_⟩
      cases hq : lookB n bx with
      | none => rw [hq] at h1; exact h1.elim
      | some ds => rw [hq] at h1; exact ⟨ds, rfl, h1⟩
    · exact ih h.2 ho.2 n cs hn

theorem mem_of_ownOf {i c : Nat} : ∀ {own : List (Loc × Nat)}, ownOf i own = some c → (Loc.t i, c) ∈ own := by
  intro own
  induction own with
  | nil => intro h; simp [ownOf] at h
  | cons p r ih =>
    obtain ⟨l, c'⟩ := p
    cases l with
    | t j =>
      rw [ownOf_t]
      intro h
      split at h
      · rename_i e; subst e; cases h; exact .head _
      · exact .tail _ (ih h)
    | b n o => intro h; exact .tail _ (ih h)
theorem mem_of_ownOfB {n o c : Nat} : ∀ {own : List (Loc × Nat)}, ownOfB n o own = some c → (Loc.b n o, c) ∈ own := by
  intro own
  induction own with
  | nil => intro h; simp [ownOfB] at h
  | cons p r ih =>
    obtain ⟨l, c'⟩ := p
    cases l with
    | t j => intro h; exact .tail _ (ih h)
    | b m q =>
      rw [ownOfB_b]
      intro h
      split at h
      · rename_i e; obtain ⟨rfl, rfl⟩ := e; cases h; exact .head _
      · exact .tail _ (ih h)

theorem wkO_spec {own : List (Loc × Nat)} {bx : List (Nat × List A)} {dom : List Nat} : ∀ {own' : List (Loc × Nat)}, wkO own bx dom own' → ∀ l c, (l, c) ∈ own' → ((l, c) ∈ own ∨ ∃ n o, l = .b n o ∧ nilAt n o bx = true) ∧ ∀ n o, l = .b n o → memN n dom = true := by
  intro own'
  induction own' with
  | nil => intro _ l c h; cases h
  | cons p r ih =>
    obtain ⟨l0, c0⟩ := p
    intro h l c hm
    cases l0 with
    | t i =>
      rcases List.mem_cons.1 hm with e | hm
      · cases e; exact ⟨.inl (mem_of_ownOf h.1), fun n o e => by cases e⟩
      · exact ih h.2 l c hm
    | b n o =>
      rcases List.mem_cons.1 hm with e | hm
      · cases e; exact ⟨h.1.1.imp mem_of_ownOfB (fun q => ⟨n, o, rfl, q⟩), fun n o e => by cases e; exact h.1.2⟩
      · exact ih h.2 l c hm

theorem wkD_spec {k : Nat} {dom : List Nat} : ∀ {bx : List (Nat × List A)}, wkD k dom bx → ∀ n cs, lookB n bx = some cs → memN n dom = true ∨ k ≤ n := by
  intro bx
  induction bx with
  | nil => intro _ n cs h; simp [lookB] at h
  | cons p r ih =>
    obtain ⟨m, es⟩ := p
    intro h n cs hn
    rw [lookB_cons] at hn
    split at hn
    · rename_i e; subst e; exact h.1
    · exact ih h.2 n cs hn

theorem nilAt_val {X : Ctx} {σ : Store} {β : Names} {s : St} {a : Act} {w : World} (h : Rel X σ β s a w) {n o : Nat} (hn : nilAt n o s.bx = true) : locVal β a w (.b n o) = some (.slice none 0 0) := by
  unfold nilAt at hn
  cases hl : lookB n s.bx with
  | none => rw [hl] at hn; cases hn
  | some cs =>
    rw [hl] at hn
    simp only [Option.bind_some] at hn
    cases hc : cs[o]? with
    | none => rw [hc] at hn; cases hn
    | some x =>
      rw [hc] at hn
      obtain ⟨b, arr, T, fz, e1, e2, e3, e4, e5, e6, e7⟩ := h.box n cs hl
      have hx := e4 o x hc
      have hlt : o < arr.size := by rw [e3]; exact (List.getElem?_eq_some_iff.1 hc).1
      simp only [locVal, e1, Option.bind_some]
      rw [cell_of_block e2, Array.getElem?_eq_getElem hlt]
      rw [Array.getD_eq_getD_getElem?, Array.getElem?_eq_getElem hlt] at hx
      cases x <;> simp only [Option.map_some, isNl, Option.getD_some] at hn <;> try (cases hn)
      simp only [Option.getD_some] at hx
      generalize arr[o] = v at hx
      cases hx; rfl

theorem weak_mk {n k : Nat} {t t' : List (Nat × A)} {bx bx' : List (Nat × List A)} {own own' : List (Loc × Nat)} (hB : wkB bx bx') (hO : wkO own bx (domB bx') own') (hD : wkD k (domB bx') bx)
    (hok : okT (domB bx') t' = true ∧ okB (domB bx') bx' = true) (hT : wkT t t') : Weak ⟨n, k, t, bx, own⟩ ⟨n, k, t', bx', own'⟩ := by
  refine ⟨rfl, rfl, fun X σ β a w h => ?_⟩
  refine ⟨σ, resN (domB bx') β, ?_, Store.le_refl _, fun _ _ => ⟨rfl, fun _ => rfl⟩, Nat.le_refl _, rfl, rfl, rfl, ?_⟩
  · have hloc : ∀ l c, (l, c) ∈ own' → locVal (resN (domB bx') β) a w l = locVal β a w l := by
      intro l c hl
      obtain ⟨_, hn⟩ := wkO_spec hO l c hl
      cases l with
      | t i => rfl
      | b m o => simp only [locVal, resN]; rw [if_pos (hn m o rfl)]
    refine ⟨h.size, h.defs, ?_, h.st, h.xs, ?_, ?_, ?_, ?_, ?_⟩
    · intro i
      obtain ⟨h1, h2⟩ := wkT_spec hT hok.1 i
      rcases h1 with h1 | h1
      · show RA _ _ (look i t') _
        rw [h1]; exact .any _
      · refine okA_ra ?_ h2
        have := h.tmp i
        show RA _ _ (look i t') _
        rw [← h1]; exact this
    · intro m cs hm
      obtain ⟨h1, ds, h2, h3⟩ := wkB_spec hB hok.2 m cs hm
      obtain ⟨b, arr, T, fz, e1, e2, e3, e4, e5, e6, e7⟩ := h.box m ds h2
      obtain ⟨c1, c2⟩ := wkC_spec h3
      refine ⟨b, arr, T, fz, by simp only [resN]; rw [if_pos (domB_of hm)]; exact e1, e2, by omega, ?_, e5, e6, e7⟩
      intro j x hx
      rcases c2 j x hx with rfl | hj | ⟨c, c', hj, rfl⟩
      · exact .any _
      · exact okA_ra (e4 j x hj) (okL_get h1 hx)
      · have := e4 j _ hj
        generalize arr.getD j undef = v at this
        cases this
        exact .d _ _ (.slnil c')
    · intro m b hb
      simp only [resN] at hb
      split at hb
      · rename_i hm; exact domB_look hm
      · cases hb
    · intro m m' b hb hb'
      simp only [resN] at hb hb'
      split at hb
      · split at hb'
        · exact h.inj m m' b hb hb'
        · cases hb'
      · cases hb
    · intro l c hl
      obtain ⟨h1, _⟩ := wkO_spec hO l c hl
      rcases h1 with h1 | ⟨n0, o0, rfl, hnil⟩
      case inr =>
        refine ⟨.slice none 0 0, (hloc _ c hl).trans (nilAt_val h hnil), ?_⟩
        intro b off len cap e; cases e
      obtain ⟨v, hv, ho⟩ := h.own l c h1
      refine ⟨v, (hloc l c hl).trans hv, ?_⟩
      intro b off len cap e hlt
      obtain ⟨g1, g2, g3, g4⟩ := ho b off len cap e hlt
      refine ⟨g1, g2, g3, fun m hm => g4 m ?_⟩
      simp only [resN] at hm
      split at hm
      · exact hm
      · cases hm
    · intro l c l' c' hl hl' hne v v' b hv hv'
      rw [hloc l c hl] at hv
      rw [hloc l' c' hl'] at hv'
      rcases (wkO_spec hO l c hl).1 with h1 | ⟨n0, o0, rfl, hnil⟩
      · rcases (wkO_spec hO l' c' hl').1 with h2 | ⟨n0, o0, rfl, hnil⟩
        · exact h.sep l c l' c' h1 h2 hne v v' b hv hv'
        · rw [nilAt_val h hnil] at hv'
          cases hv'
          intro _ e; cases e
      · rw [nilAt_val h hnil] at hv
        cases hv
        intro e; cases e
  · intro m hm
    simp only [resN]
    cases hb : β m with
    | none => simp
    | some b =>
      obtain ⟨cs, hcs⟩ := h.dom m b hb
      rcases wkD_spec hD m cs hcs with h1 | h1
      · rw [if_pos h1]
      · have : m < k := hm
        omega

/-! ### Its parts, one at a time -/
theorem wkT_nil {t} : wkT t [] = True := rfl
theorem wkT_c {t i x r} : wkT t ((i, x) :: r) = (look i t = x ∧ wkT t r) := rfl
theorem wkC_nil : wkC [] [] = True := rfl
theorem wkC_any {x l m} : wkC (x :: l) (.any :: m) = wkC l m := by simp [wkC]
theorem wkC_d {x l y m} : wkC (.d x :: l) (.d y :: m) = (A.d x = .d y ∧ wkC l m) := by simp [wkC]
theorem wkC_nd {c c' l m} : wkC (.nil c :: l) (.d (.sl c' []) :: m) = wkC l m := by simp [wkC]
theorem wkC_nn {c c' l m} : wkC (.nil c :: l) (.nil c' :: m) = (A.nil c = .nil c' ∧ wkC l m) := by simp [wkC]
theorem wkC_ptr {x l a b m} : wkC (x :: l) (.ptr a b :: m) = (x = .ptr a b ∧ wkC l m) := by simp [wkC]
theorem wkC_bsl {x l a b c e m} : wkC (x :: l) (.bsl a b c e :: m) = (x = .bsl a b c e ∧ wkC l m) := by simp [wkC]
theorem wkC_clo {x l f cs m} : wkC (x :: l) (.clo f cs :: m) = (x = .clo f cs ∧ wkC l m) := by simp [wkC]
theorem wkB_nil {bx} : wkB bx [] = True := rfl
theorem wkB_c {bx m cs r} : wkB bx ((m, cs) :: r) = (kSome (lookB m bx) (fun ds => wkC ds cs) ∧ wkB bx r) := rfl
theorem wkO_nil {own bx dom} : wkO own bx dom [] = True := rfl
theorem wkO_t {own bx dom i c r} : wkO own bx dom ((.t i, c) :: r) = (ownOf i own = some c ∧ wkO own bx dom r) := rfl
theorem wkO_b {own bx dom n o c r} : wkO own bx dom ((.b n o, c) :: r) = (((ownOfB n o own = some c ∨ nilAt n o bx = true) ∧ memN n dom = true) ∧ wkO own bx dom r) := rfl
theorem nilAt_eq {n o bx} : nilAt n o bx = (((lookB n bx).bind (fun cs => cs[o]?)).map isNl).getD false := rfl
theorem isNl_n {c} : isNl (.nil c) = true := rfl
theorem isNl_d {c} : isNl (.d c) = false := rfl
theorem okA_nl {dom c} : okA dom (.nil c) = true := rfl
theorem wkD_nil {k dom} : wkD k dom [] = True := rfl
theorem wkD_c {k dom m cs r} : wkD k dom ((m, cs) :: r) = ((memN m dom = true ∨ k ≤ m) ∧ wkD k dom r) := rfl
theorem okT_nil {dom} : okT dom [] = true := rfl
theorem okT_c {dom i x r} : okT dom ((i, x) :: r) = (okA dom x && okT dom r) := rfl
theorem okB_nil {dom} : okB dom [] = true := rfl
theorem okB_c {dom m cs r} : okB dom ((m, cs) :: r) = (okL dom cs && okB dom r) := rfl
theorem okL_nil {dom} : okL dom [] = true := rfl
theorem okL_c {dom x r} : okL dom (x :: r) = (okA dom x && okL dom r) := rfl
theorem okA_any {dom} : okA dom .any = true := rfl
theorem okA_d {dom x} : okA dom (.d x) = true := rfl
theorem okA_ptr {dom n o} : okA dom (.ptr n o) = memN n dom := rfl
theorem okA_bsl {dom n o l c} : okA dom (.bsl n o l c) = memN n dom := rfl
theorem okA_agg {dom cs} : okA dom (.agg cs) = okL dom cs := rfl
theorem okA_clo {dom f cs} : okA dom (.clo f cs) = okL dom cs := rfl
theorem okA_tup {dom cs} : okA dom (.tup cs) = okL dom cs := rfl
theorem okA_ep {dom e} : okA dom (.ep e) = true := rfl
theorem memN_nil {i} : memN i [] = false := rfl
theorem memN_c {i j l} : memN i (j :: l) = if i = j then true else memN i l := by
  rw [Bool.eq_iff_iff, memN_iff]
  by_cases h : i = j
  · subst h; simp
  · simp [h, memN_iff]
theorem domB_nil : domB [] = [] := rfl
theorem domB_c {n cs l} : domB ((n, cs) :: l) = n :: domB l := rfl

attribute [go_sem] wkC_nd wkC_nn nilAt_eq isNl_n isNl_d okA_nl wkT_nil wkT_c wkC_nil wkC_any wkC_d wkC_ptr wkC_bsl wkC_clo wkB_nil wkB_c wkO_nil wkO_t wkO_b wkD_nil wkD_c okT_nil okT_c okB_nil okB_c okL_nil okL_c
  okA_any okA_d okA_ptr okA_bsl okA_agg okA_clo okA_tup okA_ep memN_nil memN_c domB_nil domB_c

theorem maxL_eq : maxL = 140737488355328 := rfl
attribute [go_sem] passOB_nil' maxL_eq decide_true decide_false List.length_map Int.toNat_natCast Bool.or_true Bool.true_or Bool.or_false Bool.false_or ne_eq not_false_eq_true not_true_eq_false beq_self_eq_true bne_self_eq_false Int.toNat_zero List.getElem?_map List.append_assoc Bool.not_eq_true Bool.not_eq_false eq_self Option.some.injEq List.length_append

/-! ### Numbers -/
theorem wrap_i64 {x : Int} (h1 : -9223372036854775808 ≤ x) (h2 : x < 9223372036854775808) : IntKind.i64.wrap x = x := by
  have e : IntKind.i64.wrap x = if 9223372036854775808 ≤ x % 18446744073709551616 then x % 18446744073709551616 - 18446744073709551616 else x % 18446744073709551616 := by
    unfold IntKind.wrap
    by_cases h : (9223372036854775808 : Int) ≤ x % 18446744073709551616
    · rw [if_pos h]
      exact if_pos (by simp only [IntKind.signed, Bool.true_and]; exact decide_eq_true h)
    · rw [if_neg h]
      exact if_neg (by simp only [IntKind.signed, Bool.true_and]; intro hh; exact h (of_decide_eq_true hh))
  rw [e]
  split <;> omega
theorem wrap_u8 {x : Int} : IntKind.u8.wrap x = x % 256 := by
  simp only [IntKind.wrap, IntKind.bits, IntKind.signed, Bool.false_and]; rfl
theorem wrap_u16 {x : Int} : IntKind.u16.wrap x = x % 65536 := by
  simp only [IntKind.wrap, IntKind.bits, IntKind.signed, Bool.false_and]; rfl
theorem wrap_u32 {x : Int} : IntKind.u32.wrap x = x % 4294967296 := by
  simp only [IntKind.wrap, IntKind.bits, IntKind.signed, Bool.false_and]; rfl
theorem wrap_u64 {x : Int} : IntKind.u64.wrap x = x % 18446744073709551616 := by
  simp only [IntKind.wrap, IntKind.bits, IntKind.signed, Bool.false_and]; rfl

/-! ### A function's contract, out of its code -/
theorem CS.go {P : Program} {f : FuncId} {fn : Func} {c : AC} {ows : List (FuncId × Nat)} {rs : List RV} {args : List A} {bx : List (Nat × List A)} {own : List (Loc × Nat)} {R : Out → Prop}
    (hf : P.funcs[f]? = some fn) (hk : fn.body.bind (comp P ows fn.ntmps) = some c) (hr : cRes P fn.results.toList = some rs) (hn : Nat.ble args.length fn.ntmps = true)
    (hv : vc P ows c ⟨fn.ntmps, 1000, enumA 0 args, bx, own⟩ (fnPost rs R)) : CS P f args bx own R := by
  obtain ⟨code, h1, h2⟩ := Option.bind_eq_some_iff.1 hk
  exact CS.of_tr hf h1 h2 hr (Nat.le_of_ble_eq_true hn) ((vc_sound code c _ _ h2 hv).mono fun ax s h => ⟨s, Weak.refl s, h⟩)
theorem CS.goW {P : Program} {f : FuncId} {fn : Func} {c : AC} {ows : List (FuncId × Nat)} {rs : List RV} {args : List A} {bx : List (Nat × List A)} {own : List (Loc × Nat)} {R : Out → Prop}
    (hf : P.funcs[f]? = some fn) (hk : fn.body.bind (comp P ows fn.ntmps) = some c) (hr : cRes P fn.results.toList = some rs) (hn : Nat.ble args.length fn.ntmps = true)
    (hv : vc P ows c ⟨fn.ntmps, 1000, enumA 0 args, bx, own⟩ (fun ax s => ∃ s', Weak s s' ∧ fnPost rs R ax s')) : CS P f args bx own R := by
  obtain ⟨code, h1, h2⟩ := Option.bind_eq_some_iff.1 hk
  exact CS.of_tr hf h1 h2 hr (Nat.le_of_ble_eq_true hn) (vc_sound code c _ _ h2 hv)

/-- What is owned is not told. -/
def dropOwn : Out → Out
  | .ret res bx _ => .ret res bx []
  | .pan x bx => .pan x bx
theorem dropOwn_ret {a b c} : dropOwn (.ret a b c) = .ret a b [] := rfl
theorem dropOwn_pan {a b} : dropOwn (.pan a b) = .pan a b := rfl
attribute [go_sem] dropOwn_ret dropOwn_pan
theorem CS.dropO {P : Program} {f : FuncId} {args : List A} {bx : List (Nat × List A)} {own : List (Loc × Nat)} {R : Out → Prop} (h : CS P f args bx own (fun o => R (dropOwn o))) : CS P f args bx own R := by
  intro X σ β w vals hrel
  refine (h X σ β w vals hrel).mono ?_
  rintro e w' ⟨o, σ', β', hq, ho, hs⟩
  refine ⟨dropOwn o, σ', β', hq, ?_, hs⟩
  cases o with
  | ret res bx ow =>
    obtain ⟨vs, he, hr⟩ := ho
    exact ⟨vs, he, hr.sub rfl rfl (fun _ => .inr rfl) (fun p hp => by cases hp)⟩
  | pan x bx => exact ho
theorem CS.go0 {P : Program} {f : FuncId} {fn : Func} {c : AC} {ows : List (FuncId × Nat)} {rs : List RV} {args : List A} {bx : List (Nat × List A)} {own : List (Loc × Nat)} {R : Out → Prop}
    (hf : P.funcs[f]? = some fn) (hk : fn.body.bind (comp P ows fn.ntmps) = some c) (hr : cRes P fn.results.toList = some rs) (hn : Nat.ble args.length fn.ntmps = true)
    (hv : vc P ows c ⟨fn.ntmps, 1000, enumA 0 args, bx, own⟩ (fnPost rs (fun o => R (dropOwn o)))) : CS P f args bx own R := (CS.go hf hk hr hn hv).dropO

end Go.Vx

/- Regions that draw their order, in the rewriting machine. -/
namespace Go.Vx
set_option linter.unusedVariables false
set_option linter.unusedSimpArgs false
open Go
set_option linter.unusedVariables false
set_option linter.unusedSimpArgs false

section
variable {P : Program} {d : Option Nat} {n k : Nat} {t : List (Nat × A)} {bx : List (Nat × List A)} {own : List (Loc × Nat)} {K : St → Prop} {L : A → Prop} {M : A → List (Nat × List A) → Prop} {Q : AX → St → Prop} {ows : List (FuncId × Nat)}

/-- A call in such a region: its one result. -/
def kDC (P : Program) (f : FuncId) (args : List A) (d : Option Nat) (n k : Nat) (t : List (Nat × A)) (bx : List (Nat × List A)) (own : List (Loc × Nat)) (M : A → List (Nat × List A) → Prop) (_ : Dm M) (_ : Dm t) (_ : Dm bx) : Prop :=
  ∃ x, CS P f args [] [] (fun o => o = .ret [x] [] []) ∧ Plain args ∧ Plain [x] ∧ k = KB ∧ lookB (k + d.getD 0) bx = none ∧ M x bx
theorem kDC_intro {f args} {a b c} (x : A) (h : CS P f args [] [] (fun o => o = .ret [x] [] [])) (h1 : Plain args) (h2 : Plain [x]) (h3 : k = KB ∧ lookB (k + d.getD 0) bx = none) (h4 : M x bx) : kDC P f args d n k t bx own M a b c :=
  ⟨x, h, h1, h2, h3.1, h3.2, h4⟩
theorem plain_agg {l : List D} : Plain [.agg (l.map .d)] := by
  intro ρ
  have : ∀ l : List D, renL ρ (l.map .d) = some (l.map .d) := by
    intro l
    induction l with
    | nil => rfl
    | cons x l ih => simp [renL_c, renA_d, ih]
  simp [renL_c, renA_agg, this, renL_nil]
theorem v_draw {ops} : vc P ows (.draw ops) ⟨n, k, t, bx, own⟩ Q = frc (keepU ops own) (fun ow => vcDS P ops ⟨n, k, t, bx, own⟩ (withO ow (fun s => Q .normal s))) := by
  simp only [frc_eq]; rfl
theorem keepU_nil {l} : keepU l [] = [] := id rfl
theorem keepU_b {l m o c r} : keepU l ((.b m o, c) :: r) = keepU l r := id rfl
theorem keepU_t {l j c r} : keepU l ((.t j, c) :: r) = if anyD j l = true then keepU l r else (.t j, c) :: keepU l r := by
  cases h : anyD j l <;> simp [keepU, h]
theorem anyD_nil {j} : anyD j [] = false := id rfl
theorem anyD_n {j i g ai anc r} : anyD j (⟨i, ⟨none, g, ai⟩, anc⟩ :: r) = anyD j r := id rfl
theorem anyD_s {j i e g ai anc r} : anyD j (⟨i, ⟨some e, g, ai⟩, anc⟩ :: r) = if j = e then true else anyD j r := by
  show (bif isDst j _ then true else anyD j r) = _
  by_cases h : j = e
  · subst h; simp [isDst]
  · have : isDst j ⟨i, ⟨some e, g, ai⟩, anc⟩ = false := by
      show Nat.beq j e = false
      cases hq : Nat.beq j e
      · rfl
      · exact absurd (Nat.eq_of_beq_eq_true hq) h
    rw [this, if_neg h]; rfl
theorem d_nil : vcDS P [] ⟨n, k, t, bx, own⟩ K = K ⟨n, k, t, bx, []⟩ := id rfl
theorem d_cons {i d ai anc r} : vcDS P (⟨i, ⟨d, none, ai⟩, anc⟩ :: r) ⟨n, k, t, bx, own⟩ K =
    vcDop P ai d ⟨n, k, t, bx, []⟩ (fun y b => frc (setT d y t) (fun t' => frc (bif isWr ai then b else bx) (fun bx' => vcDS P r ⟨n, k, t', bx', []⟩ K))) := by
  simp only [frc_eq]; cases d <;> rfl
theorem d_consg {i d ai anc r j} : vcDS P (⟨i, ⟨d, some (j, true), ai⟩, anc⟩ :: r) ⟨n, k, t, bx, own⟩ K = frc (look j t) (fun v => kGd v (fun c =>
    kIf c (vcDS P (⟨i, ⟨d, none, ai⟩, anc⟩ :: r) ⟨n, k, t, bx, []⟩ K) (frc (setT d (.tup []) t) (fun t' => vcDS P r ⟨n, k, t', bx, []⟩ K)))
    (frc (setT d (.tup []) t) (fun t' => vcDS P r ⟨n, k, t', bx, []⟩ K))) := by
  have e : (bif isWr ai then bx else bx) = bx := by cases isWr ai <;> rfl
  cases hl : look j t with
  | d y => cases y <;> simp only [vcDS, vcDg, hl, frc_eq, kGd, kIf, kIf', Bool.not_true] <;> (first | (rw [e]; cases d <;> rfl) | skip)
  | tup l => cases l <;> simp only [vcDS, vcDg, hl, frc_eq, kGd, e] <;> (cases d <;> rfl)
  | _ => simp only [vcDS, vcDg, hl, frc_eq, kGd]
theorem d_consg' {i d ai anc r j} : vcDS P (⟨i, ⟨d, some (j, false), ai⟩, anc⟩ :: r) ⟨n, k, t, bx, own⟩ K = frc (look j t) (fun v => kGd v (fun c =>
    kIf c (frc (setT d (.tup []) t) (fun t' => vcDS P r ⟨n, k, t', bx, []⟩ K)) (vcDS P (⟨i, ⟨d, none, ai⟩, anc⟩ :: r) ⟨n, k, t, bx, []⟩ K))
    (frc (setT d (.tup []) t) (fun t' => vcDS P r ⟨n, k, t', bx, []⟩ K))) := by
  have e : (bif isWr ai then bx else bx) = bx := by cases isWr ai <;> rfl
  cases hl : look j t with
  | d y => cases y <;> simp only [vcDS, vcDg, hl, frc_eq, kGd, kIf, kIf', Bool.not_false] <;> (first | (rw [e, and_comm]; cases d <;> rfl) | skip)
  | tup l => cases l <;> simp only [vcDS, vcDg, hl, frc_eq, kGd, e] <;> (cases d <;> rfl)
  | _ => simp only [vcDS, vcDg, hl, frc_eq, kGd]
theorem thr_some {c e : Nat} : thr (some c) e = [(.t e, c)] := id rfl
theorem thr_none {e : Nat} : thr none e = [] := id rfl
theorem withO_mk {ow} : withO ow K ⟨n, k, t, bx, own⟩ = K ⟨n, k, t, bx, ow⟩ := id rfl
theorem v_drawo {pre a e tl} : vc P ows (.drawo pre a e tl) ⟨n, k, t, bx, own⟩ Q = frc (ownOf a own) (fun oc => frc (thr oc e ++ dropOt a (keepU pre own)) (fun ow => vcDS P pre ⟨n, k, t, bx, own⟩ (withO ow (fun s => vcOps P tl s Q)))) := by
  simp only [frc_eq]; rfl
theorem dop_w {x} (h : isWr (.op x) = true) (h2 : isBs x = false) : vcDop P (.op x) d ⟨n, k, t, bx, own⟩ M = pwr x d ⟨n, k, t, bx, own⟩ M := by
  simp [vcDop, h, h2]
theorem dop_p {x} (h : isWr (.op x) = false) (h2 : isBs x = false) : vcDop P (.op x) d ⟨n, k, t, bx, own⟩ M = pop x ⟨n, k, t, bx, own⟩ (fun y => M y bx) := by
  simp [vcDop, h, h2]
theorem dop_store {c x v} : vcDop P (.op (.store c x v)) d ⟨n, k, t, bx, own⟩ M = pwr (.store c x v) d ⟨n, k, t, bx, own⟩ M := dop_w rfl rfl
theorem dop_cpy {c x v} : vcDop P (.op (.cpy c x v)) d ⟨n, k, t, bx, own⟩ M = pwr (.cpy c x v) d ⟨n, k, t, bx, own⟩ M := dop_w rfl rfl
theorem dop_alloc {c x} : vcDop P (.op (.alloc c x)) d ⟨n, k, t, bx, own⟩ M = pwr (.alloc c x) d ⟨n, k, t, bx, own⟩ M := dop_w rfl rfl
theorem dop_mv {x tr} : vcDop P (.op (.mv x tr)) d ⟨n, k, t, bx, own⟩ M = frc (evo t x) (fun y => M y bx) := by rw [dop_p rfl rfl]; simp only [pop, ev_evo, frc_eq]
def kPick (c a b : A) (K : A → Prop) : Prop := match c, a, b with
  | .d (.bool t), .d (.bool p), .d (.bool q) => K (.d (.bool (bif t then p else q)))
  | .d (.bool t), .tup [], .d (.bool q) => t = false ∧ K (.d (.bool q))
  | .d (.bool t), .d (.bool p), .tup [] => t = true ∧ K (.d (.bool p))
  | _, _, _ => False
theorem kPick_b {u p q : Bool} {L : A → Prop} : kPick (.d (.bool u)) (.d (.bool p)) (.d (.bool q)) L = L (.d (.bool (if u then p else q))) := by cases u <;> rfl
theorem kPick_u {u q : Bool} {L : A → Prop} : kPick (.d (.bool u)) (.tup []) (.d (.bool q)) L = kAnd (u = false) (L (.d (.bool q))) := id rfl
theorem kPick_v {u p : Bool} {L : A → Prop} : kPick (.d (.bool u)) (.d (.bool p)) (.tup []) L = kAnd (u = true) (L (.d (.bool p))) := id rfl
theorem dop_pick {c a b} : vcDop P (.op (.pick c a b)) d ⟨n, k, t, bx, own⟩ M = frc (evo t c) (fun q => frc (evo t a) (fun u => frc (evo t b) (fun v => kPick q u v (fun z => M z bx)))) := by
  rw [dop_p rfl rfl]; simp only [pop, ev_evo, frc_eq, kPick]
  rfl
theorem dop_load1 {c x tr} : vcDop P (.op (.load false c x tr)) d ⟨n, k, t, bx, own⟩ M = frc (evo t x) (fun v => kPlace v (fun m o => frc (lookB m bx) (fun b => kSome b (fun cs => frc (cs[o]?) (fun y => kSome y (fun y => M y bx)))))
    (fun e => frc (e[0]?) (fun y => kSome y (fun y => M (.d y) bx)))) := by
  rw [dop_p rfl rfl]; simp only [pop, ev_evo, frc_eq, kPlace, kSome_ex]
  cases hm : evo t x with
  | ptr m o =>
    simp only
    cases lookB m bx with
    | none => rfl
    | some cs => simp only [kSome]; cases cs[o]? <;> rfl
  | ep e => simp only [kSome]; cases e[0]? <;> rfl
  | _ => rfl
theorem dop_loada {c x tr} : vcDop P (.op (.load true c x tr)) d ⟨n, k, t, bx, own⟩ M = frc (evo t x) (fun v => kPlace v (fun m o => frc (lookB m bx) (fun b => kSome b (fun cs => kAnd (o + c ≤ cs.length) (frc ((cs.drop o).take c) (fun l => M (.agg l) bx)))))
    (fun e => kAnd (c ≤ e.length) (frc ((e.take c).map .d) (fun l => M (.agg l) bx)))) := by
  rw [dop_p rfl rfl]; simp only [pop, ev_evo, frc_eq, kPlace, kAnd, kAnd']
  cases hm : evo t x with
  | ptr m o => simp only; cases lookB m bx <;> rfl
  | _ => rfl
theorem dop_nilck {x} : vcDop P (.op (.nilck x)) d ⟨n, k, t, bx, own⟩ M = frc (evo t x) (fun v => kPlace v (fun m o => M (.ptr m o) bx) (fun e => M (.ep e) bx)) := by
  rw [dop_p rfl rfl]; simp only [pop, ev_evo, frc_eq, kPlace]
  all_goals (cases evo t x <;> rfl)
theorem dop_bin {op x y} : vcDop P (.op (.bin op x y)) d ⟨n, k, t, bx, own⟩ M = frc (evo t x) (fun u => frc (evo t y) (fun v => kBin op u v (fun z => M z bx))) := by
  rw [dop_p rfl rfl]; simp only [pop, ev_evo, frc_eq, kBin]
  cases evo t x with
  | d p => cases p <;> (cases evo t y with
    | d q => cases q <;> rfl
    | _ => rfl)
  | _ => cases evo t y with
    | d q => cases q <;> rfl
    | _ => rfl
theorem dop_binB {neg x y} : vcDop P (.op (.binB neg x y)) d ⟨n, k, t, bx, own⟩ M = frc (evo t x) (fun u => frc (evo t y) (fun v => kBool u (fun a => kBool v (fun b => M (.d (.bool (bif neg then a != b else a == b))) bx)))) := by
  rw [dop_p rfl rfl]; simp only [pop, ev_evo, frc_eq, kBool]
  cases evo t x with
  | d p => cases p <;> (cases evo t y with
    | d q => cases q <;> rfl
    | _ => rfl)
  | _ => cases evo t y with
    | d q => cases q <;> rfl
    | _ => rfl
theorem dop_eqs {neg ks x y} : vcDop P (.op (.eqs neg ks x y)) d ⟨n, k, t, bx, own⟩ M = frc (evo t x) (fun u => frc (evo t y) (fun v => kAgg u (fun xs => kAgg v (fun ys => frc (eqCells ks xs ys) (fun o => kSome o (fun b =>
    M (.d (.bool (bif neg then !b else b))) bx)))))) := by
  rw [dop_p rfl rfl]; simp only [pop, ev_evo, frc_eq, kAgg, kSome]
  cases evo t x with
  | agg xs => cases evo t y with
    | agg ys => simp only; cases eqCells ks xs ys <;> rfl
    | _ => rfl
  | _ => cases evo t y <;> rfl
theorem dop_not {x} : vcDop P (.op (.un .not x)) d ⟨n, k, t, bx, own⟩ M = frc (evo t x) (fun u => kBool u (fun b => M (.d (.bool !b)) bx)) := by
  rw [dop_p rfl rfl]; simp only [pop, ev_evo, frc_eq, kBool]
  all_goals (cases evo t x with
    | d y => cases y <;> rfl
    | _ => rfl)
theorem dop_cpl {x} : vcDop P (.op (.un .xor x)) d ⟨n, k, t, bx, own⟩ M = frc (evo t x) (fun u => kInt u (fun q b => M (.d (.int q (ibits .xor q (bif q.signed then -1 else q.max) b))) bx)) := by
  rw [dop_p rfl rfl]; simp only [pop, ev_evo, frc_eq, kInt]
  all_goals (cases evo t x with
    | d y => cases y <;> rfl
    | _ => rfl)
theorem dop_cvi {q x} : vcDop P (.op (.cvi q x)) d ⟨n, k, t, bx, own⟩ M = frc (evo t x) (fun u => kInt u (fun _ b => frc (q.wrap b) (fun z => M (.d (.int q z)) bx))) := by
  rw [dop_p rfl rfl]; simp only [pop, ev_evo, frc_eq, kInt]
  all_goals (cases evo t x with
    | d y => cases y <;> rfl
    | _ => rfl)
theorem dop_fa {off x} : vcDop P (.op (.fa off x)) d ⟨n, k, t, bx, own⟩ M = frc (evo t x) (fun v => kPlace v (fun m o => frc (o + off) (fun q => M (.ptr m q) bx)) (fun e => frc (e.drop off) (fun e' => M (.ep e') bx))) := by
  rw [dop_p rfl rfl]; simp only [pop, ev_evo, frc_eq, kPlace]
  all_goals (cases evo t x <;> rfl)
theorem dop_ixa {m c x i} : vcDop P (.op (.ixa m c x i)) d ⟨n, k, t, bx, own⟩ M = frc (evo t x) (fun v => frc (evo t i) (fun w => kInt w (fun _ j => kPlace v (fun b o => kAnd (0 ≤ j ∧ j < m) (frc (o + j.toNat * c) (fun q => M (.ptr b q) bx)))
    (fun e => kAnd (0 ≤ j ∧ j < m) (frc (e.drop (j.toNat * c)) (fun e' => M (.ep e') bx)))))) := by
  rw [dop_p rfl rfl]; simp only [pop, ev_evo, frc_eq, kPlace, kInt, kAnd, kAnd']
  cases evo t x <;> (cases evo t i with
    | d y => cases y <;> rfl
    | _ => rfl)
theorem dop_ixs {c x i} : vcDop P (.op (.ixs c x i)) d ⟨n, k, t, bx, own⟩ M = frc (evo t x) (fun v => frc (evo t i) (fun w => kInt w (fun _ j => kSl v (fun c' es => kAnd (c' = c ∨ es = []) (kAnd (0 ≤ j ∧ j < es.length) (frc (es.getD j.toNat []) (fun e => M (.ep e) bx))))
    (fun m o len _ => kAnd (0 ≤ j ∧ j < len) (frc (o + j.toNat * c) (fun q => M (.ptr m q) bx)))))) := by
  rw [dop_p rfl rfl]; simp only [pop, ev_evo, frc_eq, kSl, kInt, kAnd, kAnd']
  cases evo t x with
  | d z => cases z <;> (cases evo t i with
    | d y => cases y <;> rfl
    | _ => rfl)
  | _ => cases evo t i with
    | d y => cases y <;> rfl
    | _ => rfl
theorem dop_len {x} : vcDop P (.op (.len x)) d ⟨n, k, t, bx, own⟩ M = frc (evo t x) (fun v => kSl v (fun c es => frc ((es.length : Nat) : Int) (fun l => M (.d (.int .i64 l)) bx)) (fun _ _ len _ => M (.d (.int .i64 len)) bx)) := by
  rw [dop_p rfl rfl]; simp only [pop, ev_evo, frc_eq, kSl]
  cases evo t x with
  | d y => cases y <;> rfl
  | _ => rfl
theorem dop_slc {c x lo hi tr} : vcDop P (.op (.slc c x lo hi tr)) d ⟨n, k, t, bx, own⟩ M = frc (evo t x) (fun v => kSl v (fun c' es => kAnd (c' = c ∨ es = []) (vcBounds ⟨n, k, t, bx, own⟩ es.length lo hi (fun l h => frc ((es.take h).drop l) (fun es' => M (.d (.sl c es')) bx)))) (fun _ _ _ _ => False)) := by
  rw [dop_p rfl rfl]; simp only [pop, ev_evo, frc_eq, kSl, kAnd, kAnd']
  cases evo t x with
  | d y => cases y <;> rfl
  | _ => rfl
theorem dop_sla {m c x lo hi} : vcDop P (.op (.sla m c x lo hi)) d ⟨n, k, t, bx, own⟩ M = frc (evo t x) (fun v => kPlace v (fun b o => vcBounds ⟨n, k, t, bx, own⟩ m lo hi (fun l h => kAnd (l < m) (frc (o + l * c) (fun o' => frc (h - l) (fun l' => frc (m - l) (fun c' => M (.bsl b o' l' c') bx)))))) (fun _ => False)) := by
  rw [dop_p rfl rfl]; simp only [pop, ev_evo, frc_eq, kPlace, kAnd, kAnd']
  cases evo t x <;> rfl
theorem dop_s2a {m c x} : vcDop P (.op (.s2a m c x)) d ⟨n, k, t, bx, own⟩ M = frc (evo t x) (fun v => kSl v (fun c' es => kAnd (c' = c ∨ es = []) (kAnd (m ≤ es.length) (kAnd (0 < m) (frc es.flatten (fun e => M (.ep e) bx))))) (fun b o len _ => kAnd (m ≤ len) (M (.ptr b o) bx))) := by
  rw [dop_p rfl rfl]; simp only [pop, ev_evo, frc_eq, kSl, kAnd, kAnd']
  cases evo t x with
  | d y => cases y <;> rfl
  | _ => rfl
theorem dop_build {z ps} : vcDop P (.op (.build z ps)) d ⟨n, k, t, bx, own⟩ M = frc (joinE (evs t ps)) (fun o => kSome o (fun l => frc (fillA z l) (fun o => kSome o (fun cs => M (.agg cs) bx)))) := by
  rw [dop_p rfl rfl]; simp only [pop, evCells_evs, frc_eq, kSome]
  cases joinE (evs t ps) with
  | none => rfl
  | some l => simp only; cases fillA z l <;> rfl
theorem dop_bslc {c len z ps} : vcDop P (.op (.bslc c len z ps)) d ⟨n, k, t, bx, own⟩ M = kAnd (d.isSome = true) (frc (joinE (evs t ps)) (fun o => kSome o (fun l => frc (fillA ((List.replicate len z).flatten.map .d) l) (fun o => kSome o (fun cs =>
    frc (toDs cs) (fun o => kSome o (fun ds => frc (chunk c len ds) (fun o => kSome o (fun es => M (.d (.sl c es)) bx))))))))) := by
  simp only [vcDop, isWr, isBs, cond_true, cond_false, pop, evCells_evs, frc_eq, kSome, kAnd, kAnd']
  congr 1
  cases joinE (evs t ps) with
  | none => rfl
  | some l => simp only; cases fillA ((List.replicate len z).flatten.map .d) l with
    | none => rfl
    | some cs => simp only; cases toDs cs with
      | none => rfl
      | some ds => simp only; cases chunk c len ds <;> rfl
theorem pwr_st {c x v} : pwr (.store c x v) none ⟨n, k, t, bx, own⟩ M = frc (evo t x) (fun p => kPlace p (fun m off => frc (cellsOfA (evo t v)) (fun o => kSome o (fun xs => frc (lookB m bx) (fun b => kSome b (fun cs =>
    kAnd (xs.length = c) (kAnd (off + c ≤ cs.length) (kAnd (xs.all isCell = true) (frc (setB m (lay cs off xs) bx) (fun bx' => M .any bx'))))))))) (fun _ => False)) := by
  simp only [pwr, ev_evo, frc_eq, kPlace, kSome, kAnd, kAnd']
  cases evo t x with
  | ptr m off =>
    simp only
    cases cellsOfA (evo t v) with
    | none => rfl
    | some xs => simp only; cases lookB m bx <;> simp
  | _ => cases cellsOfA (evo t v) <;> rfl
theorem pwr_al {cs ow} {dd : Nat} : pwr (.alloc cs ow) (some dd) ⟨n, k, t, bx, own⟩ M = frc (k + dd) (fun m => kAnd (lookB m bx = none) (M (.ptr m 0) ((m, cs) :: bx))) := by
  simp only [pwr, frc_eq, kAnd, kAnd']
theorem pwr_cp {c dd x} : pwr (.cpy c dd x) d ⟨n, k, t, bx, own⟩ M = frc (evo t dd) (fun v => kSl v (fun _ _ => False) (fun m o len _ => frc (lookB m bx) (fun q => kSome q (fun cs => frc (evo t x) (fun u => kSl u (fun c' es =>
    kAnd (o + len * c ≤ cs.length) (kAnd (c' = c ∨ es = []) (frc (setB m (lay cs o ((es.take len).flatten.map .d)) bx) (fun bx' => M (.d (.int .i64 (min es.length len : Nat))) bx')))) (fun _ _ _ _ => False)))))) := by
  simp only [pwr, ev_evo, frc_eq, kSl, kSome, kAnd, kAnd']
  cases evo t dd with
  | d y => cases y <;> rfl
  | bsl m o len cap =>
    simp only
    cases lookB m bx with
    | none => rfl
    | some cs => cases evo t x with
      | d y => cases y <;> rfl
      | _ => rfl
  | _ => rfl
theorem dop_call {f args po} : vcDop P (.call f args po) d ⟨n, k, t, bx, own⟩ M = frc (args.map (evo t)) (fun l => kDC P f l d n k t bx own M ⟨⟩ ⟨⟩ ⟨⟩) := by
  simp only [vcDop, kDC, frc_eq, evo_map]
end
theorem isWr_store {c x v} : isWr (.op (.store c x v)) = true := id rfl
theorem isWr_cpy {c x v} : isWr (.op (.cpy c x v)) = true := id rfl
theorem isWr_alloc {c x} : isWr (.op (.alloc c x)) = true := id rfl
theorem isWr_call {f l p} : isWr (.call f l p) = false := id rfl
theorem isWr_mv {x b} : isWr (.op (.mv x b)) = false := id rfl
theorem isWr_pick {x b c} : isWr (.op (.pick x b c)) = false := id rfl
theorem isWr_load {x b c e} : isWr (.op (.load x b c e)) = false := id rfl
theorem isWr_nilck {x} : isWr (.op (.nilck x)) = false := id rfl
theorem isWr_bin {x b c} : isWr (.op (.bin x b c)) = false := id rfl
theorem isWr_binB {x b c} : isWr (.op (.binB x b c)) = false := id rfl
theorem isWr_eqs {x b c e} : isWr (.op (.eqs x b c e)) = false := id rfl
theorem isWr_un {x b} : isWr (.op (.un x b)) = false := id rfl
theorem isWr_cvi {x b} : isWr (.op (.cvi x b)) = false := id rfl
theorem isWr_fa {x b} : isWr (.op (.fa x b)) = false := id rfl
theorem isWr_ixa {x b c e} : isWr (.op (.ixa x b c e)) = false := id rfl
theorem isWr_ixs {x b c} : isWr (.op (.ixs x b c)) = false := id rfl
theorem isWr_len {x} : isWr (.op (.len x)) = false := id rfl
theorem isWr_slc {a b c e f} : isWr (.op (.slc a b c e f)) = false := id rfl
theorem isWr_sla {a b c e f} : isWr (.op (.sla a b c e f)) = false := id rfl
theorem isWr_s2a {a b c} : isWr (.op (.s2a a b c)) = false := id rfl
theorem isWr_build {a b} : isWr (.op (.build a b)) = false := id rfl
theorem isWr_bslc {a b c e} : isWr (.op (.bslc a b c e)) = false := id rfl
attribute [go_sem ↓] v_draw v_drawo withO_mk d_nil d_cons d_consg d_consg' kPick_b kPick_u kPick_v dop_binB dop_store dop_cpy dop_alloc dop_mv dop_pick dop_load1 dop_loada dop_nilck dop_bin dop_eqs dop_not dop_cpl dop_cvi dop_fa dop_ixa dop_ixs dop_len dop_slc dop_sla dop_s2a dop_build dop_bslc
  pwr_al pwr_st pwr_cp dop_call
attribute [go_sem] keepU_nil keepU_b keepU_t anyD_nil anyD_n anyD_s thr_some thr_none isWr_store isWr_cpy isWr_alloc isWr_call isWr_mv isWr_pick isWr_load isWr_nilck isWr_bin isWr_eqs isWr_un isWr_cvi isWr_fa isWr_ixa isWr_ixs isWr_len isWr_slc isWr_sla isWr_s2a
  isWr_build isWr_bslc isWr_binB Option.isSome_some List.getD_cons_zero List.getD_cons_succ

theorem kSome_intro {α : Type} {o : Option α} {K : α → Prop} {a : α} (h : o = some a) (g : K a) : kSome o K := by rw [h]; exact g
theorem wkC_refl : ∀ l : List A, wkC l l
  | [] => trivial
  | x :: l => ⟨.inr (.inl rfl), wkC_refl l⟩

theorem lay_eq {α : Type} : ∀ (r l : List α) (o : Nat), o + r.length ≤ l.length → lay l o r = l.take o ++ r ++ l.drop (o + r.length)
  | [], l, o, _ => by simp [lay]
  | x :: r, l, o, h => by
    have hl : o < l.length := by simp at h; omega
    rw [lay_cons, lay_eq r (l.set o x) (o + 1) (by simp at h ⊢; omega)]
    have e1 : (l.set o x).take (o + 1) = l.take o ++ [x] := by
      rw [List.take_add_one, List.take_set_of_le (Nat.le_refl o)]
      simp [hl]
    have e2 : (l.set o x).drop (o + 1 + r.length) = l.drop (o + (x :: r).length) := by
      rw [List.drop_set_of_lt (by omega)]
      congr 1; simp; omega
    rw [e1, e2]; simp
theorem lay_all {α : Type} {l r : List α} (h : r.length = l.length) : lay l 0 r = r := by
  rw [lay_eq r l 0 (by omega)]
  simp [h]

end Go.Vx

/- A box is left alone for ever: what points to it reads stable cells. -/
namespace Go.Vx
set_option linter.unusedVariables false
set_option linter.unusedSimpArgs false
open Go
set_option linter.unusedVariables false
set_option linter.unusedSimpArgs false

/-- An empty slice is an empty slice, of whatever elements. -/
theorem weak_nil {n k : Nat} {t : List (Nat × A)} {bx : List (Nat × List A)} {own : List (Loc × Nat)} (m off c c' : Nat) {cs : List A} (hm : lookB m bx = some cs) (ho : cs[off]? = some (.d (.sl c []))) :
    Weak ⟨n, k, t, bx, own⟩ ⟨n, k, t, setB m (cs.set off (.d (.sl c' []))) bx, own⟩ := by
  refine ⟨rfl, rfl, fun X σ β a w h => ⟨σ, β, ⟨h.size, h.defs, h.tmp, h.st, h.xs, ?_, ?_, h.inj, h.own, h.sep⟩, Step.refl _ _ _ _ _⟩⟩
  · intro i es hi
    have hi : lookB i (setB m (cs.set off (.d (.sl c' []))) bx) = some es := hi
    rw [lookB_setB] at hi
    by_cases e : i = m
    · subst e
      rw [if_pos rfl, hm] at hi
      simp only [Option.map_some, Option.some.injEq] at hi
      subst hi
      obtain ⟨b, arr, T, fz, g1, g2, g3, g4, g5, g6, g7⟩ := h.box i cs hm
      refine ⟨b, arr, T, fz, g1, g2, by simpa using g3, ?_, g5, g6, g7⟩
      intro j x hx
      rw [List.getElem?_set] at hx
      split at hx
      · rename_i ej
        subst ej
        split at hx
        · simp only [Option.some.injEq] at hx
          subst hx
          have := g4 off _ ho
          cases this with
          | d _ _ hr =>
            refine .d _ _ ?_
            generalize arr.getD off undef = v at hr
            cases hr with
            | slnil => exact .slnil c'
            | slodd _ a => exact .slodd c' a
            | sl _ _ b2 off2 cap f hl hcap hc hs hr => exact .sl c' [] b2 off2 cap f hl hcap (fun e he => by cases he) (fun i e he => by simp at he) (fun i e he => by simp at he)
        · cases hx
      · exact g4 j x hx
    · rw [if_neg e] at hi; exact h.box i es hi
  · intro i b hi
    obtain ⟨es, hes⟩ := h.dom i b hi
    have hes : lookB i bx = some es := hes
    by_cases e : i = m
    · exact ⟨cs.set off (.d (.sl c' [])), by show lookB i (setB _ _ bx) = _; rw [lookB_setB, if_pos e]; subst e; rw [hm]; rfl⟩
    · exact ⟨es, by show lookB i (setB _ _ bx) = _; rw [lookB_setB, if_neg e]; exact hes⟩

end Go.Vx

/- A function's end with results; a frame behind a deferred call. -/
namespace Go.Vx
set_option linter.unusedVariables false
set_option linter.unusedSimpArgs false
open Go

section
variable {P : Program} {X : Ctx} {σ : Store} {β : Names} {s : St} {a : Act} {w : World}

/-- THE END WITH RESULTS. -/
theorem ends_of {fn : Func} {rs : List RV} {R : Out → Prop} {σ0 : Store} {β0 : Names} {w0 : World} (hX : X.df = []) (r : Rel X σ β s a w) (hrs : cRes P fn.results.toList = some rs) (st : Step X KB σ0 β0 w0 σ β w)
    (hfin : vcFin rs s R) : a.defers = [] ∧ ∃ v, (results fn a.tmps).run P w = .ok v w ∧ ∃ o σ2 β2, R o ∧ OutRel X σ2 β2 w o (.returned v) ∧ Step X KB σ0 β0 w0 σ2 β2 w := by
  refine ⟨r.defs.trans hX, ?_⟩
  obtain ⟨res, vs, hk, h1, h2, h3, h4, h5⟩ := res_run (P := P) r _ rs _ hrs hfin
  split at hk
  · rename_i res' bx' hren hpass
    have hid : ∀ p, p ∈ idOld s.bx ++ idRef res → p.1 = p.2 := fun p hp => by
      rcases List.mem_append.1 hp with hp | hp
      · exact idOld_id _ p hp
      · exact idRef_id _ p hp
    obtain ⟨d1, d2⟩ := idList hid
    have hin := call_in r (args := res) (ops := resOps rs) (po := resPo s.own 0 rs) (vals := vs.toArray) (idOld s.bx ++ idRef res) (fun m n hm => by rw [d2]; have := d1 m n hm; subst this; exact hm) (fun m n hm => by rw [d2] at hm; have := d1 n m hm; subst this; exact hm) hren hpass
      (by simp [h1]) (fun i x hx => by have := h3 i x hx; simpa [Array.getD_eq_getD_getElem?, List.getD_eq_getElem?_getD] using this) (fun i j hj => by have := h4 i j hj; rw [← this]; simp [Array.getD_eq_getD_getElem?, List.getD_eq_getElem?_getD])
    refine ⟨pack vs.toArray, ?_, _, σ, _, hk, ⟨vs.toArray, rfl, hin.lessX hX.symm (fun b hb => .inl hb)⟩, ?_⟩
    · show ((fn.results.mapM (resG a.tmps)) >>= fun vs => pure (pack vs)).run P w = _
      rw [Array.mapM_eq_mapM_toList]
      simp only [Sem.run_bind, Sem.run_map, h5]
      first | rfl | (simp only [Result.andThen_ok, Sem.run_pure]; rfl) | simp only [Result.andThen_ok, Sem.run_pure]
    · refine st.trans ⟨Store.le_refl _, fun _ _ => ⟨rfl, fun _ => rfl⟩, Nat.le_refl _, rfl, rfl, rfl, ?_⟩
      intro n hn
      simp only [BC, d2]
      cases hb : β n with
      | none =>
        cases hq : findN (idOld s.bx ++ idRef res) n with
        | none => rfl
        | some m => have := d1 n m hq; subst this; simp [hb]
      | some b =>
        obtain ⟨cs, hcs⟩ := r.dom n b hb
        obtain ⟨m, hm⟩ := idOld_has _ n cs hcs (by simpa using hn)
        have : findN (idOld s.bx ++ idRef res) n = some m := by rw [findN_append, hm]
        rw [this]
        have := d1 n m this
        subst this
        exact hb
  · exact hk.elim

/-- A call's frame at its start. -/
theorem Rel.entry {args : List A} {bx : List (Nat × List A)} {own : List (Loc × Nat)} {vals : Array Value} {N : Nat} (hrel : Rel X σ β (St.io args bx own) ⟨vals, []⟩ w) (hn : args.length ≤ N) :
    Rel X σ β { n := N, k := KB, t := enumA 0 args, bx, own } ⟨vals ++ Array.replicate (N - vals.size) undef, []⟩ w := by
  have hvs : vals.size = args.length := hrel.size
  have hget : ∀ i, (vals ++ Array.replicate (N - vals.size) undef).getD i undef = vals.getD i undef := by
    intro i
    rw [Array.getD_eq_getD_getElem?, Array.getD_eq_getD_getElem?]
    by_cases hi : i < vals.size
    · rw [Array.getElem?_append_left hi]
    · rw [Array.getElem?_append_right (by omega), Array.getElem?_eq_none (by omega : vals.size ≤ i)]
      rw [Array.getElem?_replicate]
      split <;> rfl
  have hloc' : ∀ l, locVal β ⟨vals ++ Array.replicate (N - vals.size) undef, []⟩ w l = locVal β ⟨vals, []⟩ w l := by
    intro l
    cases l with
    | t i => simp only [locVal, hget]
    | b n o => rfl
  refine ⟨by simp [hvs]; omega, hrel.defs, fun i => by rw [hget]; exact hrel.tmp i, hrel.st, hrel.xs, hrel.box, hrel.dom, hrel.inj, ?_, ?_⟩
  · intro l c hl
    obtain ⟨v, hv, ho⟩ := hrel.own l c hl
    exact ⟨v, (hloc' l).trans hv, ho⟩
  · intro l c l' c' hl hl' hne v v' b hv hv'
    rw [hloc'] at hv hv'
    exact hrel.sep l c l' c' hl hl' hne v v' b hv hv'

/-- The rest of a run is named from further on. -/
theorem Rel.atK (h : Rel X σ β s a w) (k : Nat) : Rel X σ β { s with k } a w := ⟨h.size, h.defs, h.tmp, h.st, h.xs, h.box, h.dom, h.inj, h.own, h.sep⟩

theorem Step.atK {k k' : Nat} {σ' : Store} {β' : Names} {w' : World} (h : Step X k σ β w σ' β' w') (hk : k' ≤ k) : Step X k' σ β w σ' β' w' :=
  ⟨h.le, h.xs, h.size, h.os, h.tape, h.output, fun n hn => h.names n (Nat.lt_of_lt_of_le hn hk)⟩

/-- Other deferred calls. -/
theorem Rel.atD (h : Rel X σ β s a w) (df : List Deferred) : Rel ⟨X.b, df⟩ σ β s ⟨a.tmps, df⟩ w := by
  refine ⟨h.size, rfl, h.tmp, h.st, h.xs, h.box, h.dom, h.inj, ?_, ?_⟩
  · intro l c hl
    obtain ⟨v, hv, ho⟩ := h.own l c hl
    refine ⟨v, ?_, ho⟩
    cases l <;> exact hv
  · intro l c l' c' h1 h2 hne v v' b hv hv'
    refine h.sep l c l' c' h1 h2 hne v v' b ?_ ?_
    · cases l <;> exact hv
    · cases l' <;> exact hv'

theorem Step.atD {k : Nat} {σ' : Store} {β' : Names} {w' : World} {df : List Deferred} (h : Step X k σ β w σ' β' w') : Step ⟨X.b, df⟩ k σ β w σ' β' w' :=
  ⟨h.le, h.xs, h.size, h.os, h.tape, h.output, h.names⟩

/-- The temporaries of a frame stand, while another's run has changed the boxes. -/
theorem Rel.reframe {Y : Ctx} {σ' : Store} {β' : Names} {s' : St} {a' : Act} {w' : World} {k : Nat} (h : Rel X σ β s a w) (g : Rel Y σ' β' s' a' w') (hY : X.b = Y.b) (st : Step Y k σ β w σ' β' w')
    (hk : ∀ n cs, lookB n s.bx = some cs → n < k) : Rel X σ' β' ⟨s.n, s.k, s.t, s'.bx, []⟩ a w' := by
  have hle : β.le β' := fun n b hb => by
    obtain ⟨cs, hcs⟩ := h.dom n b hb
    rw [st.names n (hk n cs hcs)]; exact hb
  refine ⟨h.size, h.defs, fun i => (h.tmp i).mono st.le hle, g.st, fun b hb => g.xs b (by rw [← hY]; exact hb), ?_, g.dom, g.inj, ?_, ?_⟩
  · intro n cs hn
    obtain ⟨b, arr, T, fz, h1, h2, h3, h4, h5, h6, h7⟩ := g.box n cs hn
    exact ⟨b, arr, T, fz, h1, h2, h3, h4, by rw [hY]; exact h5, h6, h7⟩
  · intro l c hl; cases hl
  · intro l c _ _ hl; cases hl

/-- Another frame over the same boxes. -/
theorem Rel.frame (h : Rel X σ β s a w) (n k : Nat) (t : List (Nat × A)) (tm : Array Value) (hsz : tm.size = n) (ht : ∀ i, RA σ β (look i t) (tm.getD i undef)) : Rel ⟨X.b, []⟩ σ β ⟨n, k, t, s.bx, []⟩ ⟨tm, []⟩ w :=
  ⟨hsz, rfl, ht, h.st, h.xs, h.box, h.dom, h.inj, fun _ _ hl => (by cases hl), fun _ _ _ _ hl => (by cases hl)⟩

/-- A REGION THAT DRAWS ITS ORDER, BY A FAMILY OF STATES: one for each set of operations that have been carried out. -/
theorem draw_fam {id : Nat} {ops : Array Oper} {Q : AX → St → Prop} {s : St} {n k : Nat} (hm : P.follows .mixedOrders = true) (S : Array Bool → St) (hn : ∀ L, (S L).n = n ∧ (S L).k = k)
    (acyc : ∀ i o, ops[i]? = some o → ∀ e, e ∈ o.after → Region.binds .any e = true → e.on < i)
    (h0 : Weak s (S (Array.replicate ops.size false)))
    (one : ∀ (L : Array Bool) i o, L.size = ops.size → L.getD i true = false → ops[i]? = some o → (∀ e, e ∈ o.after → Region.binds .any e = true → L.getD e.on false = true) →
      o.guard = none ∧ ∃ ao, compI P [] [] o = some ao ∧ dstOk n o = true ∧ vcOne P ⟨o.dst, none, ao⟩ (S L) (fun s' => Weak s' (S (L.setIfInBounds i true))) (fun _ _ => False))
    (hq : ∀ L : Array Bool, L.size = ops.size → (∀ i, i < ops.size → L.getD i false = true) → Q .normal (S L)) : Tr P (.region id ops true) s Q := by
  intro X σ β a w hr
  obtain ⟨w1, w2, hw⟩ := h0
  obtain ⟨σ0, β0, hr0, hs0⟩ := hw X σ β a w hr
  have hk0 : s.k = k := by rw [← w2]; exact (hn _).2
  have hn0 : s.n = n := by rw [← w1]; exact (hn _).1
  rw [hk0] at hs0 ⊢
  rw [hn0]
  have full : ∀ L : Array Bool, L.size = ops.size → Region.ready .any ops L = [] → ∀ i, i < ops.size → L.getD i false = true := by
    intro L hs hrd i
    induction i using Nat.strongRecOn with
    | ind i ih =>
      intro hi
      cases hq : L.getD i false with
      | true => rfl
      | false =>
        obtain ⟨o, ho⟩ : ∃ o, ops[i]? = some o := ⟨_, Array.getElem?_eq_getElem hi⟩
        have : i ∈ Region.ready .any ops L := mem_ready.2 ⟨getD_in (by omega) hq, o, ho, fun e he hb => ih e.on (acyc i o ho e he hb) (by have := acyc i o ho e he hb; omega)⟩
        rw [hrd] at this
        cases this
  have key : ∀ (fuel : Nat) (L : Array Bool) (a : Act) (w' : World) (σ' : Store) (β' : Names), L.toList.count false = fuel → L.size = ops.size → Rel X σ' β' (S L) a w' → Step X k σ β w σ' β' w' →
      wpAny P .any ops (Post Q X n k σ β w) fuel L a w' := by
    intro fuel
    induction fuel with
    | zero =>
      intro L a w' σ' β' hc hs hR hS
      have hall : ∀ i, i < ops.size → L.getD i false = true := by
        intro i hi
        have hi' : i < L.size := by omega
        cases hq : L.getD i false with
        | true => rfl
        | false =>
          have hv : L.toList[i]'(by simpa using hi') = false := by simpa [hi'] using hq
          have : 0 < L.toList.count false := List.count_pos_iff.2 (hv ▸ List.getElem_mem _)
          omega
      refine ⟨?_, .normal, _, σ', β', hq L hs hall, (hn L).1, (hn L).2, trivial, hR, hS⟩
      cases hr : Region.ready .any ops L with
      | nil => rfl
      | cons i r =>
        have hi : i ∈ Region.ready .any ops L := by rw [hr]; exact .head _
        obtain ⟨hun, o, ho, _⟩ := mem_ready.1 hi
        have := hall i (Array.getElem?_eq_some_iff.1 ho).1
        rw [getD_both hun] at this
        cases this
    | succ fuel ih =>
      intro L a w' σ' β' hc hs hR hS
      refine ⟨fun hrd => ⟨.normal, _, σ', β', hq L hs (full L hs hrd), (hn L).1, (hn L).2, trivial, hR, hS⟩, fun i hi => ?_⟩
      obtain ⟨hun, o, ho, hdep⟩ := mem_ready.1 hi
      obtain ⟨hg, ao, hc2, hd, hv⟩ := one L i o hs hun ho hdep
      unfold wpOp
      rw [ho]
      have hw : Region.wanted o (yielded ops a.tmps) = true := by simp [Region.wanted, hg]
      simp only [hw, if_true]
      left
      obtain ⟨hd1, hd2⟩ := dst_lt hd
      refine upon_mono (one_sound (g := none) hc2 hR (by rw [(hn L).1]; exact hd1) hd2 hv) ?_ ?_
      · rintro a' w2 ⟨s', σ2, β2, hu, e1, e2, hR2, hS2⟩
        obtain ⟨_, _, hwk⟩ := hu
        obtain ⟨σ3, β3, hR3, hS3⟩ := hwk X σ2 β2 a' w2 hR2
        have hk2 : s'.k = k := e2.trans (hn L).2
        rw [hk2] at hS3
        rw [(hn L).2] at hS2
        refine ih _ a' w2 σ3 β3 ?_ (by simp [hs]) hR3 (hS.trans (hS2.trans hS3))
        have := count_set hun
        omega
      · rintro e a' w2 ⟨_, _, _, _, _, _, _, hq, _⟩
        exact hq.elim
  refine wp_region_any hm (key _ _ a _ σ0 β0 (by simp) (by simp) (hr0.heapEq (w' := { w with drawn := w.drawn + 1 }) rfl) ?_)
  exact ⟨hs0.le, hs0.xs, hs0.size, hs0.os, hs0.tape, hs0.output, hs0.names⟩

end
end Go.Vx

/- What an argument's reading says of its cells: data of its type. -/
namespace Go.Vx
set_option linter.unusedVariables false
set_option linter.unusedSimpArgs false
open Go
set_option linter.unusedVariables false
set_option linter.unusedSimpArgs false

/-- All cells of a world are settled. -/
def sig (w : World) : Store := fun b o => w.cell? ⟨b, o, none⟩

theorem mapM_get {α β : Type} {f : α → Option β} : ∀ {l : List α} {xs : List β}, l.mapM f = some xs → xs.length = l.length ∧ ∀ (i : Nat) a, l[i]? = some a → ∃ y, xs[i]? = some y ∧ f a = some y
  | [], xs, h => by
    simp only [List.mapM_nil, Option.pure_def, Option.some.injEq] at h
    subst h
    exact ⟨rfl, fun i a hi => by simp at hi⟩
  | a :: l, xs, h => by
    rw [List.mapM_cons] at h
    cases hy : f a with
    | none => rw [hy] at h; cases h
    | some y =>
      rw [hy] at h
      cases hl : l.mapM f with
      | none => rw [hl] at h; cases h
      | some ys =>
        rw [hl] at h
        have h : some (y :: ys) = some xs := h
        cases h
        obtain ⟨h1, h2⟩ := mapM_get hl
        refine ⟨by simp [h1], fun i b hi => ?_⟩
        cases i with
        | zero => simp only [List.getElem?_cons_zero, Option.some.injEq] at hi; subst hi; exact ⟨y, rfl, hy⟩
        | succ i => exact h2 i b (by simpa using hi)

theorem range_get {n i : Nat} (h : i < n) : (List.range n)[i]? = some i := by simp [h]

/-- The cells at a place. -/
theorem cells_get {w : World} {a : Addr} {n : Nat} {cs : List Value} (h : w.cells? 0 a n = some cs) : cs.length = n ∧ ∀ i, i < n → w.cell? (a.add i) = some (cs.getD i undef) := by
  unfold World.cells? at h
  rw [if_pos (Nat.zero_le _)] at h
  obtain ⟨h1, h2⟩ := mapM_get h
  refine ⟨by simpa using h1, fun i hi => ?_⟩
  obtain ⟨y, hy, hc⟩ := h2 i i (range_get hi)
  rw [hc, List.getD_eq_getElem?_getD, hy]; rfl

theorem spot_none {w : World} {a : Addr} {v : Value} (h : w.cell? a = some v) : a.spot = none := by
  unfold World.cell? at h
  split at h
  · split at h
    · cases h
    · rename_i hs; simpa using hs
  · cases h

/-- A list out of its elements. -/
theorem list_of {α : Type} {p : Nat → α → Prop} : ∀ (n : Nat), (∀ i, i < n → ∃ e, p i e) → ∃ es : List α, es.length = n ∧ ∀ i e, es[i]? = some e → p i e
  | 0, _ => ⟨[], rfl, fun i e h => by simp at h⟩
  | n + 1, h => by
    obtain ⟨es, h1, h2⟩ := list_of n (fun i hi => h i (by omega))
    obtain ⟨e, he⟩ := h n (by omega)
    refine ⟨es ++ [e], by simp [h1], fun i x hx => ?_⟩
    by_cases hi : i < es.length
    · rw [List.getElem?_append_left hi] at hx; exact h2 i x hx
    · rw [List.getElem?_append_right (by omega)] at hx
      have : i - es.length = 0 := by
        have := (List.getElem?_eq_some_iff.1 hx).1
        simp at this; omega
      rw [this] at hx
      simp only [List.getElem?_cons_zero, Option.some.injEq] at hx
      subst hx
      have : i = n := by omega
      subst this
      exact he

/-! ### Data of a type -/

def WTs (c : TypeId → Nat) (q : TypeId → List D → Prop) : List Field → List D → Prop
  | [], ds => ds = []
  | f :: fs, ds => ∃ d1 d2, ds = d1 ++ d2 ∧ d1.length = c f.type ∧ q f.type d1 ∧ WTs c q fs d2
def WTa (c : Nat) (q : List D → Prop) : Nat → List D → Prop
  | 0, ds => ds = []
  | n + 1, ds => ∃ d1 d2, ds = d1 ++ d2 ∧ d1.length = c ∧ q d1 ∧ WTa c q n d2
def WT (P : Program) : Nat → TypeId → List D → Prop
  | 0, _, _ => False
  | n + 1, t, ds => match P.underlying t with
    | some .bool => ∃ b, ds = [.bool b]
    | some (.int k) => ∃ i, ds = [.int k i] ∧ k.min ≤ i ∧ i ≤ k.max
    | some .string => ∃ s, ds = [.str s]
    | some (.slice e) => ∃ es, ds = [.sl (P.cellsOf e) es] ∧ es.length * P.bytesOf e ≤ reachBytes ∧ ∀ d, d ∈ es → d.length = P.cellsOf e ∧ WT P n e d
    | some (.struct fs) => WTs P.cellsOf (WT P n) fs.toList ds
    | some (.array m e) => WTa (P.cellsOf e) (WT P n e) m ds
    | _ => False

def tile (P : Program) (S : List TypeId) : Nat → List Field → Nat → Bool
  | k, [], n => Nat.beq k n
  | k, f :: fs, n => memN f.type S && Nat.beq f.offset k && tile P S (k + P.cellsOf f.type) fs n
def tyOk1 (P : Program) (S : List TypeId) (t : TypeId) : Bool :=
  match P.underlying t with
  | some .bool => true
  | some (.int _) => true
  | some .string => true
  | some (.slice e) => memN e S && Nat.blt 0 (P.cellsOf e) && Nat.blt 0 (P.bytesOf e)
  | some (.struct fs) => tile P S 0 fs.toList (P.cellsOf t)
  | some (.array n e) => memN e S && Nat.beq (P.cellsOf t) (n * P.cellsOf e)
  | _ => false
def tyOk (P : Program) (S : List TypeId) : Bool := S.all (tyOk1 P S)

/-- What a reading of cells gives. -/
def Dec (P : Program) (w : World) (fuel : Nat) (t : TypeId) (cs : List Value) : Prop :=
  ∃ ds : List D, ds.length = cs.length ∧ (∀ (j : Nat) x, ds[j]? = some x → Reads (sig w) x (cs.getD j undef)) ∧ WT P fuel t ds

section
variable {H : Type} {enc : TypeId × Value → H} {P : Program} {w : World} {spare : Nat → Bool} {held : Bool}

theorem weightsAll_mem {e : TypeId} {d : DataW H} : ∀ {l : List (DataW H)}, d ∈ l → ∀ n, n ∈ d.weights P e → n ∈ DataW.weightsAll P e l
  | [], h, _, _ => by cases h
  | x :: l, h, n, hn => by
    rw [DataW.weightsAll, List.mem_append]
    rcases List.mem_cons.1 h with rfl | h
    · exact .inl hn
    · exact .inr (weightsAll_mem h n hn)

theorem dec_struct {S : List TypeId} {fuel : Nat} (ih : ∀ t cs x, memN t S = true → DataW.trod enc P w 0 (fun _ => true) held fuel t cs = some x → (∀ n, n ∈ x.1.weights P t → n ≤ reachBytes) → Dec P w fuel t cs) (cs : List Value) :
    ∀ (fs : List Field) (k : Nat) (xs : List (DataW H × List MemPlace)), tile P S k fs cs.length = true → k ≤ cs.length →
      (fs.mapM fun f => DataW.trod enc P w 0 (fun _ => true) held fuel f.type ((cs.drop f.offset).take (P.cellsOf f.type))) = some xs →
      (∀ n, n ∈ DataW.weightsEach P (fs.map (·.type)) (xs.map (·.1)) → n ≤ reachBytes) →
      ∃ ds : List D, k + ds.length = cs.length ∧ (∀ (j : Nat) x, ds[j]? = some x → Reads (sig w) x (cs.getD (k + j) undef)) ∧ WTs P.cellsOf (WT P fuel) fs ds
  | [], k, xs, ht, hk, h, _ => by
    have : k = cs.length := Nat.eq_of_beq_eq_true ht
    exact ⟨[], by simp [this], fun j x hx => by simp at hx, rfl⟩
  | f :: fs, k, xs, ht, hk, h, hw => by
    simp only [tile, Bool.and_eq_true] at ht
    obtain ⟨⟨hm, ho⟩, ht⟩ := ht
    have ho : f.offset = k := Nat.eq_of_beq_eq_true ho
    have hle : k + P.cellsOf f.type ≤ cs.length := by
      have : ∀ (fs : List Field) (k : Nat), tile P S k fs cs.length = true → k ≤ cs.length := by
        intro fs
        induction fs with
        | nil => intro k h; exact Nat.le_of_eq (Nat.eq_of_beq_eq_true h)
        | cons g gs ihg =>
          intro k h
          simp only [tile, Bool.and_eq_true] at h
          exact Nat.le_trans (Nat.le_add_right _ _) (ihg _ h.2)
      exact this fs _ ht
    obtain ⟨hlen, hget⟩ := mapM_get h
    cases xs with
    | nil => simp at hlen
    | cons x xs =>
      obtain ⟨y, hy, hf⟩ := hget 0 f rfl
      simp only [List.getElem?_cons_zero, Option.some.injEq] at hy
      subst hy
      have hrest : (fs.mapM fun f => DataW.trod enc P w 0 (fun _ => true) held fuel f.type ((cs.drop f.offset).take (P.cellsOf f.type))) = some xs := by
        rw [List.mapM_cons, hf] at h
        cases hl : (fs.mapM fun f => DataW.trod enc P w 0 (fun _ => true) held fuel f.type ((cs.drop f.offset).take (P.cellsOf f.type))) with
        | none => rw [hl] at h; cases h
        | some ys =>
          rw [hl] at h
          have h : some (x :: ys) = some (x :: xs) := h
          injection h with h
          injection h with _ h
          rw [h]
      simp only [List.map_cons, DataW.weightsEach] at hw
      obtain ⟨d1, a1, a2, a3⟩ := ih f.type _ x hm hf (fun n hn => hw n (List.mem_append.2 (.inl hn)))
      obtain ⟨d2, b1, b2, b3⟩ := dec_struct ih cs fs (k + P.cellsOf f.type) xs ht hle hrest (fun n hn => hw n (List.mem_append.2 (.inr hn)))
      have hl1 : d1.length = P.cellsOf f.type := by
        rw [a1, List.length_take, List.length_drop, ho]; omega
      refine ⟨d1 ++ d2, by simp; omega, ?_, d1, d2, rfl, hl1, a3, b3⟩
      intro j v hv
      by_cases hj : j < d1.length
      · rw [List.getElem?_append_left hj] at hv
        have := a2 j v hv
        rw [List.getD_eq_getElem?_getD, List.getElem?_take, if_pos (by omega), List.getElem?_drop, ho] at this
        rw [List.getD_eq_getElem?_getD]; exact this
      · rw [List.getElem?_append_right (by omega)] at hv
        have := b2 (j - d1.length) v hv
        rw [show k + P.cellsOf f.type + (j - d1.length) = k + j by omega] at this
        exact this

theorem dec_array {S : List TypeId} {fuel : Nat} {e : TypeId} (he : memN e S = true) (ih : ∀ t cs x, memN t S = true → DataW.trod enc P w 0 (fun _ => true) held fuel t cs = some x → (∀ n, n ∈ x.1.weights P t → n ≤ reachBytes) → Dec P w fuel t cs) (cs : List Value) {n : Nat} (hn : cs.length = n * P.cellsOf e) {xs : List (DataW H × List MemPlace)}
    (h : ((List.range n).mapM fun i => DataW.trod enc P w 0 (fun _ => true) held fuel e ((cs.drop (i * P.cellsOf e)).take (P.cellsOf e))) = some xs) (hw : ∀ m, m ∈ DataW.weightsAll P e (xs.map (·.1)) → m ≤ reachBytes) :
    ∀ m i, i + m = n → ∃ ds : List D, ds.length = m * P.cellsOf e ∧ (∀ (j : Nat) x, ds[j]? = some x → Reads (sig w) x (cs.getD (i * P.cellsOf e + j) undef)) ∧ WTa (P.cellsOf e) (WT P fuel e) m ds
  | 0, i, hi => ⟨[], by simp, fun j x hx => by simp at hx, rfl⟩
  | m + 1, i, hi => by
    obtain ⟨_, hget⟩ := mapM_get h
    obtain ⟨y, hy, hf⟩ := hget i i (range_get (by omega))
    obtain ⟨d1, a1, a2, a3⟩ := ih e _ y he hf (fun k hk => hw k (weightsAll_mem (List.mem_map_of_mem (List.mem_of_getElem? hy)) k hk))
    obtain ⟨d2, b1, b2, b3⟩ := dec_array he ih cs hn h hw m (i + 1) (by omega)
    have hb : i * P.cellsOf e + P.cellsOf e ≤ cs.length := by
      rw [hn, ← Nat.succ_mul]
      exact Nat.mul_le_mul_right _ (by omega)
    have hl1 : d1.length = P.cellsOf e := by
      rw [a1, List.length_take, List.length_drop]; omega
    refine ⟨d1 ++ d2, by rw [List.length_append, hl1, b1, Nat.succ_mul]; omega, ?_, d1, d2, rfl, hl1, a3, b3⟩
    intro j v hv
    by_cases hj : j < d1.length
    · rw [List.getElem?_append_left hj] at hv
      have := a2 j v hv
      rw [List.getD_eq_getElem?_getD, List.getElem?_take, if_pos (by omega), List.getElem?_drop] at this
      rw [List.getD_eq_getElem?_getD]; exact this
    · rw [List.getElem?_append_right (by omega)] at hv
      have := b2 (j - d1.length) v hv
      rw [Nat.succ_mul, show i * P.cellsOf e + P.cellsOf e + (j - d1.length) = i * P.cellsOf e + j by omega] at this
      exact this

/-- WHAT A READING SAYS. -/
theorem trod_dec {S : List TypeId} (hS : tyOk P S = true) : ∀ (fuel : Nat) (t : TypeId) (cs : List Value) (x : DataW H × List MemPlace), memN t S = true →
    DataW.trod enc P w 0 (fun _ => true) held fuel t cs = some x → (∀ n, n ∈ x.1.weights P t → n ≤ reachBytes) → Dec P w fuel t cs
  | 0, t, cs, x, _, h, _ => by simp [DataW.trod] at h
  | fuel + 1, t, cs, x, hm, h, hw => by
    have ih := trod_dec hS fuel
    have hok : tyOk1 P S t = true := by
      unfold tyOk at hS
      rw [List.all_eq_true] at hS
      exact hS t (memN_iff.1 hm)
    unfold tyOk1 at hok
    unfold DataW.trod at h
    cases hu : P.underlying t with
    | none => rw [hu] at hok; cases hok
    | some td =>
      rw [hu] at hok h
      cases td with
      | bool =>
        match cs, h with
        | [.bool b], h =>
          refine ⟨[.bool b], rfl, fun j x hx => ?_, by simp only [WT, hu]; exact ⟨b, rfl⟩⟩
          cases j with
          | zero => simp only [List.getElem?_cons_zero, Option.some.injEq] at hx; subst hx; exact .bool b
          | succ j => simp at hx
      | int k =>
        match cs, h with
        | [.int k' n], h =>
          simp only at h
          split at h
          · rename_i hc
            obtain ⟨rfl, hwf⟩ := hc
            simp only [Lit.wf, Bool.and_eq_true, decide_eq_true_eq] at hwf
            refine ⟨[.int k' n], rfl, fun j x hx => ?_, by simp only [WT, hu]; exact ⟨n, rfl, hwf⟩⟩
            cases j with
            | zero => simp only [List.getElem?_cons_zero, Option.some.injEq] at hx; subst hx; exact .int k' n
            | succ j => simp at hx
          · cases h
      | string =>
        match cs, h with
        | [.string s], h =>
          simp only at h
          split at h
          · cases h
            have hl : s.data.toList.length ≤ maxL := by
              have := hw _ (by rw [DataW.weights]; exact .head _)
              unfold reachBytes at this
              unfold maxL; omega
            refine ⟨[.str s.data.toList], rfl, fun j x hx => ?_, by simp only [WT, hu]; exact ⟨_, rfl⟩⟩
            cases j with
            | zero =>
              simp only [List.getElem?_cons_zero, Option.some.injEq] at hx
              subst hx
              have : s = ⟨s.data.toList.toArray⟩ := by cases s; simp
              show Reads (sig w) _ (.string s)
              rw [this]
              have e : (⟨s.data.toList.toArray⟩ : ByteArray).data.toList = s.data.toList := by simp
              rw [e]
              exact .str _ hl
            | succ j => simp at hx
          · cases h
      | slice e =>
        simp only [Bool.and_eq_true] at hok
        obtain ⟨⟨hme, hc⟩, hb⟩ := hok
        have hc : 0 < P.cellsOf e := by simpa using hc
        have hb : 0 < P.bytesOf e := by simpa using hb
        match cs, h with
        | [.slice none 0 0], h =>
          refine ⟨[.sl (P.cellsOf e) []], rfl, fun j x hx => ?_, by simp only [WT, hu]; exact ⟨[], rfl, by simp, fun d hd => by cases hd⟩⟩
          cases j with
          | zero => simp only [List.getElem?_cons_zero, Option.some.injEq] at hx; subst hx; exact .slnil _
          | succ j => simp at hx
        | [.slice (some a) len cap], h =>
          simp only [if_true] at h
          split at h
          · rename_i hcond
            obtain ⟨elems, he, h⟩ := Option.bind_eq_some_iff.1 h
            obtain ⟨rest, hr, h⟩ := Option.map_eq_some_iff.1 h
            subst h
            simp only [DataW.weights, hu] at hw
            obtain ⟨hel, heg⟩ := mapM_get he
            obtain ⟨hrl, hrg⟩ := mapM_get hr
            rw [List.length_range] at hel hrl
            have hlenb : len * P.bytesOf e ≤ reachBytes := by
              have := hw _ (.head _)
              simp only [List.length_map] at this
              rw [hel, hrl] at this
              exact Nat.le_trans (Nat.mul_le_mul_right _ (by omega)) this
            have hlen : len ≤ maxL := by
              have := hw _ (.head _)
              have e0 : reachBytes ≤ maxL := by decide
              simp only [List.length_map] at this
              rw [hel, hrl] at this
              have h1 : len ≤ (len + (cap - len)) * P.bytesOf e := Nat.le_trans (by omega) (Nat.le_mul_of_pos_right _ hb)
              omega
            -- each element
            have hone : ∀ i, i < len → ∃ d : List D, d.length = P.cellsOf e ∧ (∀ (j : Nat) x, d[j]? = some x → ∃ v, w.cell? ((a.add (i * P.cellsOf e)).add j) = some v ∧ Reads (sig w) x v) ∧ WT P fuel e d := by
              intro i hi
              obtain ⟨y, hy, hf⟩ := heg i i (range_get hi)
              obtain ⟨cs1, hcs, ht⟩ := Option.bind_eq_some_iff.1 hf
              obtain ⟨c1, c2⟩ := cells_get hcs
              obtain ⟨d, q1, q2, q3⟩ := ih e cs1 y hme ht (fun n hn => hw n (.tail _ (List.mem_append.2 (.inl (weightsAll_mem (List.mem_map_of_mem (List.mem_of_getElem? hy)) n hn)))))
              refine ⟨d, by omega, fun j x hx => ?_, q3⟩
              have hj : j < P.cellsOf e := by have := (List.getElem?_eq_some_iff.1 hx).1; omega
              exact ⟨_, c2 j hj, q2 j x hx⟩
            obtain ⟨es, l1, l2⟩ := list_of len hone
            by_cases hcap : cap = 0
            · have hl0 : len = 0 := by omega
              subst hl0; subst hcap
              refine ⟨[.sl (P.cellsOf e) []], rfl, fun j x hx => ?_, by simp only [WT, hu]; exact ⟨[], rfl, by simp, fun d hd => by cases hd⟩⟩
              cases j with
              | zero => simp only [List.getElem?_cons_zero, Option.some.injEq] at hx; subst hx; exact .slodd _ a
              | succ j => simp at hx
            · -- the address is a cell's
              have hsp : a.spot = none := by
                have hfirst : ∃ cs1, w.cells? 0 (a.add (0 * P.cellsOf e)) (P.cellsOf e) = some cs1 := by
                  by_cases hl0 : len = 0
                  · obtain ⟨y, _, hf⟩ := hrg 0 0 (range_get (by omega))
                    obtain ⟨cs1, hcs, _⟩ := Option.bind_eq_some_iff.1 hf
                    rw [hl0] at hcs
                    exact ⟨cs1, by simpa using hcs⟩
                  · obtain ⟨y, _, hf⟩ := heg 0 0 (range_get (by omega))
                    obtain ⟨cs1, hcs, _⟩ := Option.bind_eq_some_iff.1 hf
                    exact ⟨cs1, hcs⟩
                obtain ⟨cs1, hcs⟩ := hfirst
                have := (cells_get hcs).2 0 hc
                rw [Nat.zero_mul] at this
                have e1 : (a.add 0).add 0 = a := by simp [Addr.add]
                rw [e1] at this
                exact spot_none this
              obtain ⟨b, off, sp⟩ := a
              simp only at hsp
              subst hsp
              refine ⟨[.sl (P.cellsOf e) es], rfl, fun j x hx => ?_, by
                simp only [WT, hu]
                refine ⟨es, rfl, by rw [l1]; exact hlenb, fun d hd => ?_⟩
                obtain ⟨i, hi⟩ := List.mem_iff_getElem?.1 hd
                obtain ⟨p1, _, p3⟩ := l2 i d hi
                exact ⟨p1, p3⟩⟩
              cases j with
              | zero =>
                simp only [List.getElem?_cons_zero, Option.some.injEq] at hx
                subst hx
                show Reads (sig w) _ (.slice (some ⟨b, off, none⟩) len cap)
                have hf : ∀ i d, es[i]? = some d → ∀ (j : Nat) x, d[j]? = some x → ∃ v, sig w b (off + i * P.cellsOf e + j) = some v ∧ Reads (sig w) x v := by
                  intro i d hd j x hx
                  obtain ⟨_, p2, _⟩ := l2 i d hd
                  obtain ⟨v, hv, hrd⟩ := p2 j x hx
                  rw [Addr.add_lit, Addr.add_lit] at hv
                  exact ⟨v, hv, hrd⟩
                rw [← l1]
                refine .sl _ es b off cap (fun i j => (sig w b (off + i * P.cellsOf e + j)).getD undef) (by omega) (by omega) (fun d hd => by
                  obtain ⟨i, hi⟩ := List.mem_iff_getElem?.1 hd
                  exact (l2 i d hi).1) ?_ ?_
                · intro i d hd j x hx
                  obtain ⟨v, hv, _⟩ := hf i d hd j x hx
                  rw [hv]; rfl
                · intro i d hd j x hx
                  obtain ⟨v, hv, hrd⟩ := hf i d hd j x hx
                  rw [hv]; exact hrd
              | succ j => simp at hx
          · cases h
      | struct fs =>
        simp only at h
        split at h
        · rename_i hl
          obtain ⟨xs, hxs, h⟩ := Option.map_eq_some_iff.1 h
          subst h
          simp only [DataW.weights, hu] at hw
          rw [← hl] at hok
          obtain ⟨ds, h1, h2, h3⟩ := dec_struct ih cs fs.toList 0 xs hok (Nat.zero_le _) hxs hw
          exact ⟨ds, by omega, fun j x hx => by have := h2 j x hx; rw [Nat.zero_add] at this; exact this, by simp only [WT, hu]; exact h3⟩
        · cases h
      | array n e =>
        simp only [Bool.and_eq_true] at hok
        simp only at h
        split at h
        · rename_i hl
          obtain ⟨xs, hxs, h⟩ := Option.map_eq_some_iff.1 h
          subst h
          simp only [DataW.weights, hu] at hw
          have hn : cs.length = n * P.cellsOf e := by rw [hl]; exact Nat.eq_of_beq_eq_true hok.2
          obtain ⟨ds, h1, h2, h3⟩ := dec_array hok.1 ih cs hn hxs hw n 0 (by omega)
          exact ⟨ds, by omega, fun j x hx => by have := h2 j x hx; rw [Nat.zero_mul, Nat.zero_add] at this; exact this, by simp only [WT, hu]; exact h3⟩
        · cases h
      | _ => cases hok

end
end Go.Vx

/- From a contract to a row's statement: arguments read afterwards as before; nothing of what was there is changed. -/
namespace Go.Vx
set_option linter.unusedVariables false
set_option linter.unusedSimpArgs false
open Go
set_option linter.unusedVariables false
set_option linter.unusedSimpArgs false

theorem mapM_mono {α β : Type} {f g : α → Option β} : ∀ {l : List α} {xs : List β}, l.mapM f = some xs → (∀ a, a ∈ l → ∀ y, f a = some y → g a = some y) → l.mapM g = some xs
  | [], xs, h, _ => by simpa using h
  | a :: l, xs, h, hg => by
    rw [List.mapM_cons] at h ⊢
    cases hy : f a with
    | none => rw [hy] at h; cases h
    | some y =>
      rw [hy] at h
      rw [hg a (.head _) y hy]
      cases hl : l.mapM f with
      | none => rw [hl] at h; cases h
      | some ys =>
        rw [hl] at h
        have h : some (y :: ys) = some xs := h
        cases h
        show (do let b ← some y; let bs ← l.mapM g; pure (b :: bs)) = some (y :: ys)
        rw [mapM_mono hl (fun b hb => hg b (.tail _ hb))]
        rfl

theorem lt_of_cellA {w : World} {a : Addr} {v : Value} (h : w.cell? a = some v) : a.block < w.heap.size := by
  unfold World.cell? at h
  split at h
  · rename_i hq; exact (Array.getElem?_eq_some_iff.1 hq).1
  · cases h

theorem cell_ext {w w' : World} (hh : ∀ b, b < w.heap.size → w'.heap[b]? = w.heap[b]?) {a : Addr} {v : Value} (h : w.cell? a = some v) : w'.cell? a = some v := by
  have hlt : a.block < w.heap.size := by
    unfold World.cell? at h
    split at h
    · rename_i hq; exact (Array.getElem?_eq_some_iff.1 hq).1
    · cases h
  unfold World.cell? at h ⊢
  rw [hh _ hlt]; exact h

theorem cells_ext {w w' : World} (hh : ∀ b, b < w.heap.size → w'.heap[b]? = w.heap[b]?) {a : Addr} {n : Nat} {cs : List Value} (h : w.cells? 0 a n = some cs) : w'.cells? 0 a n = some cs := by
  unfold World.cells? at h ⊢
  rw [if_pos (Nat.zero_le _)] at h ⊢
  exact mapM_mono h (fun i _ y hy => cell_ext hh hy)

section
variable {H : Type} {enc : TypeId × Value → H} {P : Program} {w w' : World} {held : Bool}

/-- WHAT WAS READ IS READ AGAIN. -/
theorem trod_ext {S : List TypeId} (hS : tyOk P S = true) (hh : ∀ b, b < w.heap.size → w'.heap[b]? = w.heap[b]?) : ∀ (fuel : Nat) (t : TypeId) (cs : List Value) (x : DataW H × List MemPlace), memN t S = true →
    DataW.trod enc P w 0 (fun _ => true) held fuel t cs = some x → DataW.trod enc P w' 0 (fun b => decide (b < w.heap.size)) held fuel t cs = some x
  | 0, t, cs, x, _, h => by simp [DataW.trod] at h
  | fuel + 1, t, cs, x, hm, h => by
    have ih := trod_ext hS hh fuel
    have hok : tyOk1 P S t = true := by
      unfold tyOk at hS
      rw [List.all_eq_true] at hS
      exact hS t (memN_iff.1 hm)
    unfold tyOk1 at hok
    unfold DataW.trod at h ⊢
    cases hu : P.underlying t with
    | none => rw [hu] at hok; cases hok
    | some td =>
      rw [hu] at hok h
      cases td with
      | bool => match cs, h with | [.bool b], h => exact h
      | int k => match cs, h with | [.int k' n], h => exact h
      | string => match cs, h with | [.string s], h => exact h
      | slice e =>
        simp only [Bool.and_eq_true] at hok
        obtain ⟨⟨hme, hc⟩, hb⟩ := hok
        have hc : 0 < P.cellsOf e := by simpa using hc
        match cs, h with
        | [.slice none 0 0], h => exact h
        | [.slice (some a) len cap], h =>
          simp only [if_true] at h ⊢
          have el : ∀ i y, ((w.cells? 0 (a.add (i * P.cellsOf e)) (P.cellsOf e)).bind (DataW.trod enc P w 0 (fun _ => true) held fuel e)) = some y →
              ((w'.cells? 0 (a.add (i * P.cellsOf e)) (P.cellsOf e)).bind (DataW.trod enc P w' 0 (fun b => decide (b < w.heap.size)) held fuel e)) = some y := by
            intro i y hy
            obtain ⟨cs1, hcs, ht⟩ := Option.bind_eq_some_iff.1 hy
            rw [cells_ext hh hcs]
            exact ih e cs1 y hme ht
          split at h
          · rename_i hcond
            rw [if_pos hcond]
            obtain ⟨elems, he, h⟩ := Option.bind_eq_some_iff.1 h
            obtain ⟨rest, hr, h⟩ := Option.map_eq_some_iff.1 h
            rw [mapM_mono he (fun i _ y hy => el i y hy)]
            simp only [Option.bind_some]
            by_cases hcl : cap - len = 0
            · rw [hcl] at hr ⊢
              have : rest = [] := by simpa using hr.symm
              subst this
              simp only [List.range_zero, List.mapM_nil]
              have e0 : (if decide (a.block < w.heap.size) = true then (pure [] : Option (List (DataW H × List MemPlace))) else some []) = some [] := by split <;> rfl
              rw [e0]
              exact congrArg some h
            · have hlt : a.block < w.heap.size := by
                obtain ⟨_, hg⟩ := mapM_get hr
                obtain ⟨y, _, hf⟩ := hg 0 0 (range_get (by omega))
                obtain ⟨cs1, hcs, _⟩ := Option.bind_eq_some_iff.1 hf
                have h1 := (cells_get hcs).2 0 hc
                have hbk : ∀ (q : Addr) n, (q.add n).block = q.block := fun q n => by unfold Addr.add; split <;> rfl
                have := lt_of_cellA h1
                rw [hbk, hbk] at this
                exact this
              rw [if_pos (by simpa using hlt), mapM_mono hr (fun i _ y hy => el _ y hy)]
              exact congrArg some h
          · cases h
      | struct fs =>
        simp only at h ⊢
        split at h
        · rename_i hl
          rw [if_pos hl]
          obtain ⟨xs, hxs, h⟩ := Option.map_eq_some_iff.1 h
          have hmem : ∀ (gs : List Field) k n, tile P S k gs n = true → ∀ f, f ∈ gs → memN f.type S = true := by
            intro gs
            induction gs with
            | nil => intro k n _ f hf; cases hf
            | cons g gs ihg =>
              intro k n ht f hf
              simp only [tile, Bool.and_eq_true] at ht
              rcases List.mem_cons.1 hf with rfl | hf
              · exact ht.1.1
              · exact ihg _ _ ht.2 f hf
          rw [mapM_mono hxs (fun f hf y hy => ih f.type _ y (hmem _ _ _ hok f hf) hy)]
          exact congrArg some h
        · cases h
      | array n e =>
        simp only [Bool.and_eq_true] at hok
        simp only at h ⊢
        split at h
        · rename_i hl
          rw [if_pos hl]
          obtain ⟨xs, hxs, h⟩ := Option.map_eq_some_iff.1 h
          rw [mapM_mono hxs (fun i _ y hy => ih e _ y hok.1 hy)]
          exact congrArg some h
        · cases h
      | _ => cases hok

theorem trodAll_ext {S : List TypeId} (hS : tyOk P S = true) (hh : ∀ b, b < w.heap.size → w'.heap[b]? = w.heap[b]?) : ∀ (ts : List TypeId) (vs : List Value) (ds : List (DataW H)) (ps : List MemPlace), (∀ t, t ∈ ts → memN t S = true) →
    DataW.TrodAll enc P w 0 (fun _ => true) held ts vs ds ps → DataW.TrodAll enc P w' 0 (fun b => decide (b < w.heap.size)) held ts vs ds ps
  | [], [], [], ps, _, h => h
  | t :: ts, v :: vs, d :: ds, ps, hm, h => by
    obtain ⟨p, q, ⟨fuel, h1⟩, h2, e⟩ := h
    exact ⟨p, q, ⟨fuel, trod_ext hS hh fuel t _ _ (hm t (.head _)) h1⟩, trodAll_ext hS hh ts vs ds q (fun t ht => hm t (.tail _ ht)) h2, e⟩
  | [], [], _ :: _, _, _, h => h.elim
  | [], _ :: _, _, _, _, h => h.elim
  | _ :: _, [], _, _, _, h => h.elim
  | _ :: _, _ :: _, [], _, _, h => h.elim

theorem kept_all {may : MemPlace → Prop} (hos : w'.os = w.os) (hout : w'.output = w.output) (hh : ∀ b, b < w.heap.size → w'.heap[b]? = w.heap[b]?) : w.keptBut w' may := by
  refine ⟨hos, hout, fun i hi => ?_⟩
  rw [hh i hi]
  cases w.heap[i]? with
  | none => rfl
  | some o => cases o with
    | cells c t fr => exact ⟨rfl, rfl, rfl, fun _ _ => rfl⟩
    | map es clock => exact .inr ⟨rfl, rfl⟩
    | _ => rfl

/-- The foreign blocks at a row's call: all that are there. -/
def topX (w : World) : Ctx := ⟨fun b => b < w.heap.size, []⟩

theorem rel_top {args : List A} {vals : Array Value} (hn : vals.size = args.length) (hr : ∀ i x, args[i]? = some x → RA (sig w) (fun _ => none) x (vals.getD i undef)) :
    Rel (topX w) (sig w) (fun _ => none) (St.io args [] []) ⟨vals, []⟩ w := by
  refine { size := hn, defs := rfl, tmp := ?_, st := fun b o v h => h, xs := fun b hb => hb, box := ?_, dom := ?_, inj := ?_, own := ?_, sep := ?_ }
  case refine_2 => intro n cs h; cases h
  case refine_3 => intro n b h; cases h
  case refine_4 => intro n m b h; cases h
  case refine_5 => intro l c h; cases h
  case refine_6 => intro l c l' c' h; cases h
  intro i
  show RA _ _ (look i (enumA 0 args)) _
  rw [look_enumA, if_pos (Nat.zero_le _), Nat.sub_zero]
  rw [List.getD_eq_getElem?_getD]
  cases hi : args[i]? with
  | none => exact .any _
  | some x => exact hr i x hi

end
end Go.Vx
