/- Soundness: append, copy, equality of values with several cells. -/
import Derived.Test.YtndfjapojjinaaaDoorVx1
import Derived.Laws.StructEq
import Derived.ChangeKeysEq
import Derived.Orders
import Derived.StillTail
namespace Go.Vx
set_option linter.unusedVariables false
set_option linter.unusedSimpArgs false
open Go

section
variable {P : Program} {o : Oper} {X : Ctx} {σ : Store} {β : Names} {s : St} {a : Act} {w : World} {K : St → Prop} {KP : D → Prop}

/-- The cells of what a slice holds. -/
theorem olds_of (h : Rel X σ β s a w) {c : Nat} (hc0 : 0 < c) {es : List (List D)} {v : Value} (hx : RA σ β (.d (.sl c es)) v) :
    ∃ (base : Option Addr) (cap : Nat) (olds : List Value), v = .slice base es.length cap ∧ es.length ≤ cap ∧ es.length ≤ maxL ∧ (∀ e, e ∈ es → e.length = c) ∧ olds.length = es.length * c ∧
      (∀ j y, es.flatten[j]? = some y → Reads σ y (olds.getD j undef)) ∧ (∀ w' : World, w'.heap = w.heap → (Builtin.firstCells c es.length v).run P w' = .ok olds.toArray w') ∧
      ((es = [] ∧ cap = 0) ∨ ∃ b off, base = some ⟨b, off, none⟩ ∧ ∀ j y, es.flatten[j]? = some y → σ b (off + j) = some (olds.getD j undef)) := by
  obtain ⟨xs, news, hk, hl, hlen, hnl, hr, h1, _, hf⟩ := src_run (P := P) h hc0 hx (KK := fun xs => xs = es) ⟨.inl rfl, fun _ => rfl⟩
  subst hk
  obtain ⟨_, hsl⟩ := ra_sl hx
  have hfc : ∀ w' : World, w'.heap = w.heap → (Builtin.firstCells c xs.length v).run P w' = .ok news.toArray w' := by
    intro w' hw'
    have := hf w' hw' xs.length (Nat.le_refl _)
    rw [← hnl, List.take_length] at this
    exact this
  rcases hsl with ⟨e5, base, e6⟩ | ⟨b, off, cap, f, e3, hcap, hlen', hs, hrr⟩
  · subst e5; subst e6
    exact ⟨base, 0, news, rfl, by simp, hl, hlen, hnl, hr, hfc, .inl ⟨rfl, rfl⟩⟩
  · subst e3
    refine ⟨_, cap, news, rfl, hcap, hl, hlen, hnl, hr, hfc, .inr ⟨b, off, rfl, ?_⟩⟩
    intro j y hy
    have hfl := flatten_len xs hlen
    have hj := (List.getElem?_eq_some_iff.1 hy).1
    -- the very cell that was loaded
    have hld := hfc w rfl
    have hcell : ∀ j z, xs.flatten[j]? = some z → ∃ u, σ b (off + j) = some u := by
      intro j z hz
      have hj := (List.getElem?_eq_some_iff.1 hz).1
      rw [hfl] at hj
      have hi : j / c < xs.length := Nat.div_lt_of_lt_mul (by rw [Nat.mul_comm]; exact hj)
      have he : xs[j / c]? = some xs[j / c] := List.getElem?_eq_getElem hi
      have hel := hlen _ (List.getElem_mem hi)
      have hm : j % c < xs[j / c].length := by rw [hel]; exact Nat.mod_lt _ hc0
      have := hs _ _ he _ _ (List.getElem?_eq_getElem hm)
      rw [show off + j / c * c + j % c = off + j by rw [Nat.mul_comm, Nat.add_assoc, Nat.div_add_mod]] at this
      exact ⟨_, this⟩
    let vs := (List.range (xs.length * c)).map fun j => (σ b (off + j)).getD undef
    have hvl : vs.length = xs.length * c := by simp [vs]
    have := run_loadCells_list (P := P) w ⟨b, off, none⟩ vs (fun j u hu => by
      rw [Addr.add_lit]
      have hj := (List.getElem?_eq_some_iff.1 hu).1
      rw [hvl] at hj
      obtain ⟨u', hu'⟩ := hcell j _ (List.getElem?_eq_getElem (by omega))
      simp only [vs, List.getElem?_map, List.getElem?_range hj, Option.map_some, hu', Option.getD_some, Option.some.injEq] at hu
      subst hu
      exact h.st _ _ _ hu')
    rw [hvl] at this
    have hld' : (loadCells ⟨b, off, none⟩ (xs.length * c)).run P w = .ok news.toArray w := by
      have := hld
      simp only [Builtin.firstCells] at this
      exact this
    rw [this] at hld'
    injection hld' with e1 _
    have e2 : vs = news := by simpa using congrArg Array.toList e1
    obtain ⟨u', hu'⟩ := hcell j y hy
    rw [hu', ← e2]
    have hj' : j < xs.length * c := by omega
    simp only [vs, List.getD_eq_getElem?_getD, List.getElem?_map, List.getElem?_range hj', Option.map_some, hu', Option.getD_some]

theorem getD_append_left {l m : List Value} {j : Nat} (h : j < l.length) : (l ++ m).getD j undef = l.getD j undef := by
  rw [List.getD_eq_getElem?_getD, List.getD_eq_getElem?_getD, List.getElem?_append_left h]
theorem getD_append_right {l m : List Value} {j : Nat} (h : l.length ≤ j) : (l ++ m).getD j undef = m.getD (j - l.length) undef := by
  rw [List.getD_eq_getElem?_getD, List.getD_eq_getElem?_getD, List.getElem?_append_right h]

/-- The cells of two lists, one behind the other. -/
theorem reads_append {c : Nat} {es xs : List (List D)} {olds news : List Value} (hol : olds.length = es.length * c) (hc : ∀ e, e ∈ es → e.length = c)
    (h1 : ∀ j y, es.flatten[j]? = some y → Reads σ y (olds.getD j undef)) (h2 : ∀ j y, xs.flatten[j]? = some y → Reads σ y (news.getD j undef)) :
    ∀ j y, (es ++ xs).flatten[j]? = some y → Reads σ y ((olds ++ news).getD j undef) := by
  intro j y hy
  rw [List.flatten_append] at hy
  have hfl := flatten_len es hc
  by_cases hj : j < es.flatten.length
  · rw [List.getElem?_append_left hj] at hy
    rw [getD_append_left (by omega)]
    exact h1 j y hy
  · rw [List.getElem?_append_right (by omega)] at hy
    rw [getD_append_right (by omega), hol, ← hfl]
    exact h2 _ y hy

theorem s_app (h : Rel X σ β s a w) (hd : ∀ i, o.dst = some i → i < s.n) {t u e : TypeId} {c bytes : Nat} {ats : Array TypeId} {args : Array Operand} {st x : Operand} {st' x' : Opd} {ie : TypeInfo} {l : List (D × Option Nat)}
    (ho : o.op = .call { callee := .builtin .append, args, argTypes := ats }) (ha2 : ats = #[t, u]) (hargs : args = #[st, x]) (hst : cOpd st = some st') (hx : cOpd x = some x')
    (ht : P.underlying t = some (.slice e)) (hie : P.info? e = some ie) (hcs : ie.size = c) (hby : ie.bytes = bytes) (hb0 : bytes ≠ 0) (hc0 : c ≠ 0) (hl : zeroT P e = some l) (hlc : l.length = c)
    (hu : ∃ du, P.underlying u = some du ∧ ∀ k, du ≠ .int k)
    (hv : vcOp (.app c bytes st' x') o.dst s K KP) : o.wp P a w (Nx X s.n s.k σ β w K) (Pn X s σ β w KP) := by
  subst ha2; subst hargs
  simp only [vcOp] at hv
  have h1 := ev_ok h hst
  have h2 := ev_ok h hx
  have hc0' : 0 < c := Nat.pos_of_ne_zero hc0
  have hexec : ∀ v w', (Builtin.append_ #[t, u] o.type #[a.eval st, a.eval x]).run P w = .ok v w' → (execOp a.eval o).run P w = .ok (.value v) w' := by
    intro v w' hr
    simp only [execOp, ho, resolve_builtin, builtin]
    have : (#[st, x] : Array Operand).map a.eval = #[a.eval st, a.eval x] := by simp
    rw [this]
    simp only [Sem.run_bind, hr, Result.andThen_ok, Sem.run_pure]
  split at hv
  · rename_i d i c' es hdd e1
    rw [e1] at h1
    obtain ⟨hcc, how, hv⟩ := hv
    have h1 := reads_sl_c hcc h1
    obtain ⟨base, cap, olds, hval, hcap, hlm, hlen, hol, hor, hof, hbase⟩ := olds_of (P := P) h hc0' h1
    obtain ⟨xs, news, ⟨hl1, hl2, hK⟩, hxl, hxlen, hnl, hnr, hn1, hlo, hnf⟩ := src_run (P := P) h hc0' h2 (hv hlm)
    have hnf' : ∀ w' : World, w'.heap = w.heap → (Builtin.firstCells c xs.length (a.eval x)).run P w' = .ok news.toArray w' := by
      intro w' hw'
      have := hnf w' hw' xs.length (Nat.le_refl _)
      rw [← hnl, List.take_length] at this
      exact this
    obtain ⟨hroomL, hgrowL⟩ := append_run (P := P) (w := w) (t := t) (u := u) (ty := o.type) (base := base) (cap := cap) ht hie hcs hby hb0 hl hlc hu hnl (hlo w) hnf' hl2 olds hol (by rw [hval] at hof; exact hof)
    have hd1 := hd d hdd
    have hm := mem_take_own how
    have hdst : ∀ v w', (execOp a.eval o).run P w = .ok (.value v) w' → ∀ σ', Rel X σ' β { s with t := (d, .d (.sl c (es ++ xs))) :: s.t, own := (.t d, c) :: dropOt i (dropOt d s.own) } (a.put (some d) v) w' → Step X s.k σ β w σ' β w' →
        o.wp P a w (Nx X s.n s.k σ β w K) (Pn X s σ β w KP) := by
      intro v w' hr σ' hR hS
      unfold Oper.wp
      rw [hr, Oper.upon_value, hdd]
      exact ⟨_, σ', β, hK, rfl, rfl, hR, hS⟩
    have hes2 : ∀ e, e ∈ es ++ xs → e.length = c := fun e he => by
      rcases List.mem_append.1 he with h | h
      · exact hlen e h
      · exact hxlen e h
    have hflr := reads_append (σ := σ) (c := c) (es := es) (xs := xs) (olds := olds) (news := news) hol hlen hor hnr
    -- the state without the old ownership
    have hs1 : Rel X σ β { s with own := dropOt i (dropOt d s.own) } a w := h.sub rfl rfl (fun _ => .inr rfl) (fun p hp => (mem_dropOt (l := p.1) (c := p.2) (mem_dropOt (l := p.1) (c := p.2) hp).1).1)
    have fixown : ∀ {σ' : Store} {a' : Act} {w' : World} {y : A}, Rel X σ' β (St.setO { s with own := dropOt i (dropOt d s.own) } d c y) a' w' → Rel X σ' β { s with t := (d, y) :: s.t, own := (.t d, c) :: dropOt i (dropOt d s.own) } a' w' := by
      intro σ' a' w' y hR
      refine hR.sub rfl rfl (fun _ => .inr rfl) (fun p hp => ?_)
      rcases List.mem_cons.1 hp with rfl | hp
      · exact .head _
      · obtain ⟨p1, p2⟩ := p
        exact .tail _ (mem_dropOt_of hp (mem_dropOt (mem_dropOt hp).1).2)
    by_cases hroom : es.length + xs.length ≤ cap
    · rcases hbase with ⟨rfl, rfl, rfl⟩ | ⟨b, off, rfl, hcells⟩
      · have hx0 : xs = [] := List.eq_nil_of_length_eq_zero (by have h9 := hroom; simp only [List.length_nil, Nat.zero_add] at h9; exact Nat.le_zero.1 h9)
        subst hx0
        have hn0 : news = [] := List.eq_nil_of_length_eq_zero (by simpa using hnl)
        subst hn0
        have hr := hroomL hroom w (by cases base <;> rfl)
        refine hdst _ _ (hexec _ _ (by rw [hval]; exact hr)) σ ?_ (Step.refl _ _ _ _ _)
        exact h.retarget hd1 hm (.d _ _ (reads_sl0 base)) (fun _ _ _ _ e hlt => by injection e with _ e2 e3; simp at e2; omega) (fun b e => by
          unfold ownB at e
          split at e
          · rename_i e2
            injection e2 with _ q2 q3
            simp at q2
            rw [if_neg (by omega)] at e; cases e
          · cases e)
      · by_cases hx0 : xs = []
        · subst hx0
          have hn0 : news = [] := List.eq_nil_of_length_eq_zero (by simpa using hnl)
          subst hn0
          have hr := hroomL hroom w rfl
          refine hdst _ _ (hexec _ _ (by rw [hval]; exact hr)) σ ?_ (Step.refl _ _ _ _ _)
          obtain ⟨v0, hv0, hov⟩ := h.own _ _ hm
          simp only [locVal, Option.some.injEq] at hv0
          have hti : a.tmps.getD i undef = a.eval st := by
            cases st with
            | tmp q => simp only [cOpd, Option.some.injEq, Opd.t.injEq] at hst; subst hst; rfl
            | const q => simp only [cOpd] at hst; cases hq : aOf q <;> rw [hq] at hst <;> simp at hst
            | func q => simp [cOpd] at hst
            | global q => simp [cOpd] at hst
          refine h.retarget hd1 hm ?_ ?_ ?_
          · have := h1; rw [hval] at this; simpa using this
          · rw [← hv0, hti, hval] at hov; exact hov
          · intro b e; rw [hti, hval]; exact e
        · have hxp : 0 < xs.length := by
            cases xs with
            | nil => exact (hx0 rfl).elim
            | cons => simp
          obtain ⟨v0, hv0, hov⟩ := h.own _ _ hm
          simp only [locVal, Option.some.injEq] at hv0
          have hti : a.tmps.getD i undef = a.eval st := by
            cases st with
            | tmp q => simp only [cOpd, Option.some.injEq, Opd.t.injEq] at hst; subst hst; rfl
            | const q => simp only [cOpd] at hst; cases hq : aOf q <;> rw [hq] at hst <;> simp at hst
            | func q => simp [cOpd] at hst
            | global q => simp [cOpd] at hst
          rw [← hv0, hti, hval] at hov
          obtain ⟨⟨arr, T, fz, hh, hasz, hfz⟩, hno, hnX, hnB⟩ := hov b off es.length cap rfl (by omega)
          have hroomc : (es.length + xs.length) * c ≤ cap * c := Nat.mul_le_mul_right _ hroom
          rw [Nat.add_mul] at hroomc
          have hst' := run_storeCells_cells (P := P) b (off + es.length * c) news 0 w
            (fun j hj => by
              rw [cell_of_block hh]
              have : off + es.length * c + 0 + j < arr.size := by omega
              rw [Array.getElem?_eq_getElem this]; rfl)
            (fun j hj => hfz.frozen hh (by omega)) hn1
          simp only [Nat.add_zero] at hst'
          have hr := hroomL hroom (w.setCells b (off + es.length * c) news) (by
            show (storeCells ((⟨b, off, none⟩ : Addr).add (es.length * c)) news).run P w = _
            rw [Addr.add_lit]; exact hst')
          have hhs := heap_setCells_same news (off + es.length * c) w arr hh
          obtain ⟨r1, r2, r3, r4⟩ := setCells_rest b news (off + es.length * c) w
          have hspl : ∀ j, (splice arr (off + es.length * c) news)[j]? = if off + es.length * c ≤ j ∧ j < off + es.length * c + news.length then news[j - (off + es.length * c)]? else arr[j]? :=
            fun j => getElem?_splice news arr _ j (by omega)
          have hE := hs1.extend (b := b) (lo := off + es.length * c) (hi := off + es.length * c + xs.length * c) (arr := splice arr (off + es.length * c) news) (T := T) (fz := fz) (w' := w.setCells b (off + es.length * c) news)
            (by rw [r1]; exact Nat.le_refl _) (fun b' hne _ => heap_setCells_other hne news _ w) hhs (by rw [size_splice]; omega) hno
            (fun o' v hv => by
              have h3 := h.st b o' v hv
              rw [cell_of_block hh] at h3
              have : o' < off + es.length * c := by
                rcases Nat.lt_or_ge o' (off + es.length * c) with h | h
                · exact h
                · rw [hno o' h] at hv; cases hv
              rw [hspl, if_neg (by omega)]; exact h3) hnB
            (fun l' c2 v hl' hv hb => by
              obtain ⟨q1, q2⟩ := mem_dropOt hl'
              obtain ⟨q3, q4⟩ := mem_dropOt q1
              refine h.sep l' c2 (.t i) c q3 hm q2 v (a.tmps.getD i undef) b hv rfl hb ?_
              rw [hti, hval]
              simp only [ownB]
              rw [if_pos (by omega)])
          have hle : σ.le _ := le_extend (σ := σ) (b := b) (lo := off + es.length * c) (hi := off + es.length * c + xs.length * c) (arr := splice arr (off + es.length * c) news) hno
          have hread : Reads (fun b' o => if b' = b ∧ off + es.length * c ≤ o ∧ o < off + es.length * c + xs.length * c then (splice arr (off + es.length * c) news)[o]? else σ b' o) (.sl c (es ++ xs)) (.slice (some ⟨b, off, none⟩) (es ++ xs).length cap) := by
            refine .sl c (es ++ xs) b off cap (fun i j => (olds ++ news).getD (i * c + j) undef) (by rw [List.length_append]; exact hl1) (by rw [List.length_append]; exact hroom) hes2 ?_ ?_
            · intro i' e' he' j z hz
              have hfg := flatten_get _ hes2 i' j e' z he' hz
              have hfl := flatten_len _ hlen
              rw [List.flatten_append] at hfg
              by_cases hj : i' * c + j < es.flatten.length
              · rw [List.getElem?_append_left hj] at hfg
                have := hcells _ _ hfg
                rw [getD_append_left (by omega)]
                have := hle _ _ _ this
                rw [← Nat.add_assoc] at this
                exact this
              · rw [List.getElem?_append_right (by omega)] at hfg
                have hj2 := (List.getElem?_eq_some_iff.1 hfg).1
                rw [flatten_len _ hxlen] at hj2
                show (if _ then _ else _) = _
                rw [if_pos ⟨rfl, by omega, by omega⟩, hspl, if_pos (by omega), getD_append_right (by omega)]
                rw [List.getD_eq_getElem?_getD, show off + i' * c + j - (off + es.length * c) = i' * c + j - olds.length by omega]
                rw [List.getElem?_eq_getElem (by omega)]
                rfl
            · intro i' e' he' j z hz
              exact (hflr _ _ (flatten_get _ hes2 i' j e' z he' hz)).mono hle
          rw [List.length_append] at hread
          refine hdst _ _ (hexec _ _ (by rw [hval]; exact hr)) _ (fixown (setO_rel hE hd1 (.d _ _ hread) ?_ ?_)) ?_
          · intro b2 off2 len2 cap2 e2 hlt
            injection e2 with e3 e4 e5
            injection e3 with e3
            injection e3 with e6 e7 _
            subst e6; subst e7; subst e4; subst e5
            refine ⟨⟨_, T, fz, hhs, by rw [size_splice]; exact hasz, by rw [size_splice]; exact hfz⟩, ?_, hnX, hnB⟩
            intro o' ho'
            rw [Nat.add_mul] at ho'
            show (if _ then _ else _) = _
            rw [if_neg (by omega)]
            exact hno o' (by omega)
          · intro l' c2 v' b2 hl' hne hv' hb' e2
            obtain ⟨q1, q2⟩ := mem_dropOt hl'
            obtain ⟨q3, q4⟩ := mem_dropOt q1
            have hb2 : b2 = b := by
              simp only [ownB] at e2
              split at e2
              · cases e2; rfl
              · cases e2
            subst hb2
            have hv0' : locVal β a w l' = some v' := by
              cases l' with
              | t j => exact hv'
              | b n' o' =>
                simp only [locVal] at hv' ⊢
                cases hbn : β n' with
                | none => rw [hbn] at hv'; cases hv'
                | some bn =>
                  rw [hbn] at hv'
                  simp only [Option.bind_some] at hv' ⊢
                  rw [← hv']
                  exact (cell_of_heap (heap_setCells_other (fun e => hnB n' (by rw [hbn, e])) news _ w) o').symm
            refine h.sep l' c2 (.t i) c q3 hm q2 v' (a.tmps.getD i undef) b2 hv0' rfl hb' ?_
            rw [hti, hval]
            simp only [ownB]
            rw [if_pos (by omega)]
          · refine ⟨hle, fun b' hb' => ?_, by rw [r1]; exact Nat.le_refl _, r2, r3, r4, fun _ _ => rfl⟩
            have hne : b' ≠ b := fun e => hnX (by rw [← e]; exact hb')
            refine ⟨(heap_setCells_other hne news _ w), fun o' => ?_⟩
            show (if _ then _ else _) = _
            rw [if_neg (fun e => hne e.1)]
    · obtain ⟨ncap, w', arr, hr, hnc, hheap, ho1, ho2, ho3, hasz, hag⟩ := hgrowL hroom
      have hfl := flatten_len _ hes2
      obtain ⟨σ', hR, hS⟩ := newSlice_put (c := c) (cap := ncap) (es := es ++ xs) (arr := arr) (T := e) (fz := (0, 0)) (w' := w') hs1 hd1 (by rw [List.length_append]; exact hl1) (by rw [List.length_append]; exact hnc) hes2 (by omega)
        (fun j z hz => by
          have hj := (List.getElem?_eq_some_iff.1 hz).1
          rw [hag j (by rw [List.length_append, hol, hnl]; rw [hfl, List.length_append, Nat.add_mul] at hj; exact hj)]
          exact hflr j z hz) hheap
        (.inl rfl) ho1 ho2 ho3
      rw [List.length_append] at hR
      exact hdst _ _ (hexec _ _ (by rw [hval]; exact hr)) σ' (fixown hR) hS
  · rename_i d q c' es hdd e1
    obtain ⟨rfl, hv⟩ := hv
    -- a nil slice written out
    have hval : a.eval st = .slice none 0 0 := by
      cases st with
      | const v =>
        simp only [cOpd] at hst
        cases hq : aOf v with
        | none => rw [hq] at hst; cases hst
        | some y =>
          rw [hq] at hst
          simp only [Option.map_some, Option.some.injEq, Opd.c.injEq] at hst
          subst hst
          have e1' : y = .d (.sl c' []) := e1
          subst e1'
          show v = _
          unfold aOf at hq
          split at hq <;> (try (cases hq; done)) <;> (try (simp at hq; done))
          rfl
      | tmp q => simp [cOpd] at hst
      | func f => simp only [cOpd, Option.some.injEq, Opd.c.injEq] at hst; subst hst; cases e1
      | global q => simp [cOpd] at hst
    obtain ⟨xs, news, ⟨hl1, hl2, hK⟩, hxl, hxlen, hnl, hnr, hn1, hlo, hnf⟩ := src_run (P := P) h hc0' h2 hv
    have hnf' : ∀ w' : World, w'.heap = w.heap → (Builtin.firstCells c xs.length (a.eval x)).run P w' = .ok news.toArray w' := by
      intro w' hw'
      have := hnf w' hw' xs.length (Nat.le_refl _)
      rw [← hnl, List.take_length] at this
      exact this
    obtain ⟨hroomL, hgrowL⟩ := append_run (P := P) (w := w) (t := t) (u := u) (ty := o.type) (base := none) (len := 0) (cap := 0) ht hie hcs hby hb0 hl hlc hu hnl (hlo w) hnf' (by rw [Nat.zero_add]; exact hl2) [] (by simp) (fun w' _ => by simp [Builtin.firstCells])
    have hd1 := hd d hdd
    by_cases hroom : 0 + xs.length ≤ 0
    · have hx0 : xs = [] := List.eq_nil_of_length_eq_zero (by omega)
      subst hx0
      have hr := hroomL hroom w rfl
      unfold Oper.wp
      rw [hexec _ _ (by rw [hval]; exact hr), Oper.upon_value, hdd]
      refine ⟨_, σ, β, hK, rfl, rfl, ?_, Step.refl _ _ _ _ _⟩
      exact setO_rel h hd1 (.d _ _ (.slnil c)) (fun _ _ _ _ e _ => by simp at e) (fun _ _ _ _ _ _ _ _ e => by simp [ownB] at e)
    · obtain ⟨ncap, w', arr, hr, hnc, hheap, ho1, ho2, ho3, hasz, hag⟩ := hgrowL hroom
      have hfl := flatten_len _ hxlen
      rw [Nat.zero_add] at hnc
      obtain ⟨σ', hR, hS⟩ := newSlice_put (c := c) (cap := ncap) (es := xs) (arr := arr) (T := e) (fz := (0, 0)) (w' := w') h hd1 hl1 hnc hxlen (by omega)
        (fun j z hz => by
          have hj := (List.getElem?_eq_some_iff.1 hz).1
          rw [hag j (by simp only [List.nil_append]; omega)]
          simp only [List.nil_append]
          exact hnr j z hz) hheap
        (.inl rfl) ho1 ho2 ho3
      unfold Oper.wp
      rw [hexec _ _ (by rw [hval]; exact hr), Oper.upon_value, hdd, Nat.zero_add]
      exact ⟨_, σ', β, hK, rfl, rfl, hR, hS⟩
  · exact hv.elim


theorem s_cpy (h : Rel X σ β s a w) (hd : ∀ i, o.dst = some i → i < s.n) {t u e : TypeId} {c : Nat} {ats : Array TypeId} {args : Array Operand} {dd x : Operand} {dd' x' : Opd}
    (ho : o.op = .call { callee := .builtin .copy, args, argTypes := ats }) (ha2 : ats = #[t, u]) (hargs : args = #[dd, x]) (hst : cOpd dd = some dd') (hx : cOpd x = some x')
    (ht : P.underlying t = some (.slice e)) (hc : tySize P e = some c) (hc0 : c ≠ 0) (hv : vcOp (.cpy c dd' x') o.dst s K KP) : o.wp P a w (Nx X s.n s.k σ β w K) (Pn X s σ β w KP) := by
  subst ha2; subst hargs
  simp only [vcOp] at hv
  have h1 := ev_ok h hst
  have h2 := ev_ok h hx
  split at hv
  · rename_i n off len cap e1
    rw [e1] at h1
    obtain ⟨b, hb, e3⟩ := ra_bsl h1
    obtain ⟨cs, hcs, hle, hv⟩ := hv
    obtain ⟨xs, news, hK, hxl, hxlen, hnl, hnr, hn1, hlo, hnf⟩ := src_run (P := P) h (Nat.pos_of_ne_zero hc0) h2 hv
    obtain ⟨b', arr, T, fz, hb', hh, hsz, hrr, hxx, hσ, hf⟩ := h.box n cs hcs
    rw [hb] at hb'; cases hb'
    have hm : min xs.length len ≤ xs.length := Nat.min_le_left _ _
    have hf1 := hnf w rfl (min xs.length len) hm
    have hmc : min xs.length len * c ≤ len * c := Nat.mul_le_mul_right _ (Nat.min_le_right _ _)
    have hmx : min xs.length len * c ≤ xs.length * c := Nat.mul_le_mul_right _ hm
    have hvl : (news.take (min xs.length len * c)).length = min xs.length len * c := by rw [List.length_take, hnl]; exact Nat.min_eq_left hmx
    have htk : ((xs.take len).flatten.map A.d).length = min xs.length len * c := by
      rw [List.length_map, flatten_len (c := c) _ (fun e he => hxlen e (List.mem_of_mem_take he)), List.length_take, Nat.min_comm]
    have hst' := run_storeCells_cells (P := P) b off (news.take (min xs.length len * c)) 0 w
      (fun j hj => by
        rw [cell_of_block hh]
        have : off + 0 + j < arr.size := by omega
        rw [Array.getElem?_eq_getElem this]; rfl)
      (fun j hj => hf.frozen hh (by omega)) (fun u hu => hn1 u (List.mem_of_mem_take hu))
    simp only [Nat.add_zero] at hst'
    have hrun : (execOp a.eval o).run P w = .ok (.value (.int .i64 (min xs.length len : Nat))) (w.setCells b off (news.take (min xs.length len * c))) := by
      simp only [execOp, ho, resolve_builtin, builtin]
      have : (#[dd, x] : Array Operand).map a.eval = #[a.eval dd, a.eval x] := by simp
      rw [this, e3]
      simp only [Builtin.copy_, List.getElem?_toArray, List.getElem?_cons_zero, List.getElem?_cons_succ]
      simp only [Sem.run_bind, run_underlying ht, Result.andThen_ok, hlo w, run_size hc]
      have hmin : Nat.min xs.length len = min xs.length len := rfl
      simp only [hmin, hf1, Result.andThen_ok, Sem.run_bind, hst', Sem.run_pure, goInt]
    have hxs : ∀ i y, ((xs.take len).flatten.map A.d)[i]? = some y → RA σ β y ((news.take (min xs.length len * c)).getD i undef) := by
      intro i y hy
      have hi := (List.getElem?_eq_some_iff.1 hy).1
      rw [List.getElem?_map] at hy
      cases hq : (xs.take len).flatten[i]? with
      | none => rw [hq] at hy; cases hy
      | some z =>
        rw [hq] at hy
        simp only [Option.map_some, Option.some.injEq] at hy
        subst hy
        have hpre : xs.flatten[i]? = some z := by
          conv => lhs; rw [← List.take_append_drop len xs]
          rw [List.flatten_append, List.getElem?_append_left (List.getElem?_eq_some_iff.1 hq).1]
          exact hq
        have := hnr i z hpre
        rw [List.getD_eq_getElem?_getD, List.getElem?_take, if_pos (by omega)]
        rw [List.getD_eq_getElem?_getD] at this
        exact .d _ _ this
    have hR := h.layBox (off := off) hcs hb (xs := (xs.take len).flatten.map A.d) (by omega) (by rw [htk]; omega) hxs
    have hS := Step.layBox (k := s.k) (off := off) (vs := news.take (min xs.length len * c)) h hcs hb
    unfold Oper.wp
    rw [hrun, Oper.upon_value]
    refine ⟨_, σ, β, hK, by rw [setd_n], by rw [setd_k], ?_, hS⟩
    have hR2 : Rel X σ β { s with bx := setB n (lay cs off ((xs.take len).flatten.map A.d)) s.bx, own := dropOr n off (off + len * c) s.own } a (w.setCells b off (news.take (min xs.length len * c))) := by
      refine hR.sub rfl rfl (fun _ => .inr rfl) (fun p hp => ?_)
      obtain ⟨p1, p2⟩ := p
      obtain ⟨q1, q2⟩ := mem_dropOr.1 hp
      exact mem_dropOr.2 ⟨q1, fun o' e he => q2 o' e ⟨he.1, by rw [htk] at he; omega⟩⟩
    exact hR2.setd hd (.d _ _ (.int _ _))
  · exact hv.elim

end
end Go.Vx

/- Soundness: '==' on values of several cells. -/
namespace Go.Vx
set_option linter.unusedVariables false
set_option linter.unusedSimpArgs false
open Go

theorem eqCells_len : ∀ (ks : List Nat) (xs ys : List A) (b : Bool), eqCells ks xs ys = some b → xs.length = ks.length ∧ ys.length = ks.length := by
  intro ks
  induction ks with
  | nil =>
    intro xs ys b h
    cases xs <;> cases ys <;> simp [eqCells] at h ⊢
  | cons k ks ih =>
    intro xs ys b h
    cases xs with
    | nil => simp [eqCells] at h
    | cons x l =>
      cases ys with
      | nil => simp [eqCells] at h
      | cons y m =>
        simp only [eqCells] at h
        split at h
        · rename_i a b' _ h2
          have := ih l m b' h2
          simp [this.1, this.2]
        · cases h

/-- The leaves of the first part, and those of the rest. -/
theorem eqCells_split : ∀ (k1 k2 : List Nat) (xs ys : List A) (b : Bool), eqCells (k1 ++ k2) xs ys = some b →
    ∃ b1 b2, eqCells k1 (xs.take k1.length) (ys.take k1.length) = some b1 ∧ eqCells k2 (xs.drop k1.length) (ys.drop k1.length) = some b2 ∧ b = (b1 && b2) := by
  intro k1
  induction k1 with
  | nil => intro k2 xs ys b h; exact ⟨true, b, rfl, h, by simp⟩
  | cons k k1 ih =>
    intro k2 xs ys b h
    cases xs with
    | nil => simp [eqCells] at h
    | cons x l =>
      cases ys with
      | nil => simp [eqCells] at h
      | cons y m =>
        simp only [List.cons_append, eqCells] at h
        split at h
        · rename_i a b' h1 h2
          obtain ⟨b1, b2, e1, e2, e3⟩ := ih k2 l m b' h2
          simp only [Option.some.injEq] at h
          refine ⟨a && b1, b2, ?_, e2, by rw [← h, e3, Bool.and_assoc]⟩
          simp only [List.length_cons, List.take_succ_cons, eqCells, h1, e1]
        · cases h

section
variable {P : Program} {o : Oper} {X : Ctx} {σ : Store} {β : Names} {s : St} {a : Act} {w : World} {K : St → Prop} {KP : D → Prop}

/-- A value with these cells. -/
def CellsAre (σ : Store) (β : Names) (ag : Bool) (xs : List A) (v : Value) : Prop :=
  match ag with
  | true => RA σ β (.agg xs) v
  | false => ∃ x, xs = [x] ∧ RA σ β x v

theorem part_cells {t : TypeId} {ag : Bool} {c off : Nat} {xs : List A} {vs : Array Value} (ha : tyAgg P t = some ag) (hc : tySize P t = some c) (h1 : ag = true ∨ c = 1)
    (hx : RA σ β (.agg xs) (.agg vs)) (hle : off + c ≤ xs.length) (w : World) : ∃ v, (part t vs off).run P w = .ok v w ∧ CellsAre σ β ag ((xs.drop off).take c) v := by
  obtain ⟨vs', e, hn, hr⟩ := ra_agg hx
  cases e
  cases ag with
  | true => exact ⟨_, run_part_agg ha hc, ra_sub hn hr hle⟩
  | false =>
    have hc1 : c = 1 := by simpa using h1
    subst hc1
    have hlt : off < xs.length := by omega
    refine ⟨_, run_part_one ha (by omega), xs[off], ?_, hr off _ (List.getElem?_eq_getElem hlt)⟩
    rw [List.drop_eq_getElem_cons hlt]
    rfl

/-- The claim for one type. -/
def EqOk (P : Program) (σ : Store) (β : Names) (D : Nat) (t : TypeId) (ks : List Nat) : Prop :=
  ∀ (ag : Bool), tyAgg P t = some ag → ∀ (xs ys : List A) (v u : Value) (b : Bool) (w : World),
    CellsAre σ β ag xs v → CellsAre σ β ag ys u → eqCells ks xs ys = some b → (Op.equalIn D t v u).run P w = .ok b w

theorem eq_fields {D : Nat} {rec : TypeId → Option (List Nat)} (ih : ∀ t ks, rec t = some ks → EqOk P σ β D t ks) {vx vy : Array Value} {xs ys : List A} (hx : RA σ β (.agg xs) (.agg vx)) (hy : RA σ β (.agg ys) (.agg vy)) (w : World) :
    ∀ (fs : List Field) (off : Nat) (ks : List Nat) (b : Bool), flatEq.flatFields rec (fun t => (tyAgg P t, tySize P t)) off fs = some ks → eqCells ks (xs.drop off) (ys.drop off) = some b → (Op.eqFields D vx vy fs).run P w = .ok b w := by
  intro fs
  induction fs with
  | nil =>
    intro off ks b hf he
    simp only [flatEq.flatFields, Option.some.injEq] at hf
    subst hf
    have : b = true := by
      have hl := eqCells_len _ _ _ _ he
      have e1 : xs.drop off = [] := List.eq_nil_of_length_eq_zero hl.1
      have e2 : ys.drop off = [] := List.eq_nil_of_length_eq_zero hl.2
      rw [e1, e2] at he
      simpa [eqCells] using he.symm
    subst this
    rfl
  | cons f fs ihf =>
    intro off ks b hf he
    simp only [flatEq.flatFields] at hf
    split at hf
    · rename_i l ag c hl hty
      simp only [Prod.mk.injEq] at hty
      obtain ⟨hag, hc⟩ := hty
      split at hf
      · rename_i hcond
        obtain ⟨hn, ho, hcl, h1, hc0⟩ := hcond
        split at hf
        · rename_i m hm
          simp only [Option.some.injEq] at hf
          subst hf
          obtain ⟨b1, b2, e1, e2, e3⟩ := eqCells_split l m _ _ b he
          have hlen := eqCells_len _ _ _ _ he
          simp only [List.length_append, List.length_drop] at hlen
          have hpx := fun w => part_cells (σ := σ) (β := β) (P := P) (off := off) hag hc h1 hx (by omega) w
          have hpy := fun w => part_cells (σ := σ) (β := β) (P := P) (off := off) hag hc h1 hy (by omega) w
          obtain ⟨v1, r1, c1⟩ := hpx w
          obtain ⟨v2, r2, c2⟩ := hpy w
          rw [← hcl] at e1 e2
          have heq := ih f.type l hl ag hag _ _ v1 v2 b1 w c1 c2 e1
          rw [List.drop_drop, List.drop_drop] at e2
          have hrest := ihf (off + c) m b2 hm e2
          simp only [Op.eqFields]
          rw [if_pos hn]
          simp only [Sem.run_bind, ho, r1, r2, heq, Result.andThen_ok]
          cases b1 with
          | true => simp only [Bool.not_true, Bool.false_eq_true, if_false, hrest, e3, Bool.true_and]
          | false => simp only [Bool.not_false, if_true, Sem.run_pure, e3, Bool.false_and]
        · cases hf
      · cases hf
    · cases hf

theorem eq_items {D n : Nat} {e : TypeId} {l : List Nat} {ag : Bool} (ih : EqOk P σ β D e l) (hag : tyAgg P e = some ag) (hc : tySize P e = some l.length) (h1 : ag = true ∨ l.length = 1) (hl0 : 0 < l.length) {vx vy : Array Value} {xs ys : List A}
    (hx : RA σ β (.agg xs) (.agg vx)) (hy : RA σ β (.agg ys) (.agg vy)) (w : World) :
    ∀ (m i : Nat) (b : Bool), eqCells (List.replicate m l).flatten (xs.drop (i * l.length)) (ys.drop (i * l.length)) = some b → (Op.eqItems D e l.length vx vy (List.range' i m)).run P w = .ok b w := by
  intro m
  induction m with
  | zero =>
    intro i b he
    have : b = true := by
      simp only [List.replicate_zero, List.flatten_nil] at he
      have hl := eqCells_len _ _ _ _ he
      have e1 : xs.drop (i * l.length) = [] := List.eq_nil_of_length_eq_zero hl.1
      have e2 : ys.drop (i * l.length) = [] := List.eq_nil_of_length_eq_zero hl.2
      rw [e1, e2] at he
      simpa [eqCells] using he.symm
    subst this
    rfl
  | succ m ihm =>
    intro i b he
    rw [List.replicate_succ, List.flatten_cons] at he
    obtain ⟨b1, b2, e1, e2, e3⟩ := eqCells_split l _ _ _ b he
    have hlen := eqCells_len _ _ _ _ he
    simp only [List.length_append, List.length_drop] at hlen
    obtain ⟨v1, r1, c1⟩ := part_cells (σ := σ) (β := β) (P := P) (off := i * l.length) hag hc h1 hx (by omega) w
    obtain ⟨v2, r2, c2⟩ := part_cells (σ := σ) (β := β) (P := P) (off := i * l.length) hag hc h1 hy (by omega) w
    have heq := ih ag hag _ _ v1 v2 b1 w c1 c2 e1
    rw [List.drop_drop, List.drop_drop] at e2
    have hrest := ihm (i + 1) b2 (by rw [Nat.succ_mul]; exact e2)
    rw [List.range'_succ]
    simp only [Op.eqItems, Sem.run_bind, r1, r2, heq, Result.andThen_ok]
    cases b1 with
    | true => simp only [Bool.not_true, Bool.false_eq_true, if_false, hrest, e3, Bool.true_and]
    | false => simp only [Bool.not_false, if_true, Sem.run_pure, e3, Bool.false_and]

theorem eq_run : ∀ (d : Nat) (t : TypeId) (ks : List Nat), flatEq P d t = some ks → ∀ (D : Nat), d ≤ D → EqOk P σ β D t ks := by
  intro d
  induction d with
  | zero => intro t c h; simp [flatEq] at h
  | succ d ih =>
    intro t ks hf D hD ag hag xs ys v u b w hx hy he
    obtain ⟨D, rfl⟩ : ∃ D', D = D' + 1 := ⟨D - 1, by omega⟩
    have agOf : ∀ {dd : TypeDesc}, P.underlying t = some dd → ag = isAggD dd := by
      intro dd h1
      unfold tyAgg at hag
      rw [h1] at hag
      simp only [Option.map_some, Option.some.injEq] at hag
      exact hag.symm
    have leaf : ∀ k, ks = [k] → ag = false → ∃ x y, RA σ β x v ∧ RA σ β y u ∧ eqCell k x y = some b := by
      intro k hk h0
      subst h0; subst hk
      obtain ⟨x, rfl, hx⟩ := hx
      obtain ⟨y, rfl, hy⟩ := hy
      refine ⟨x, y, hx, hy, ?_⟩
      simp only [eqCells] at he
      split at he
      · rename_i a1 b1 q1 q2
        cases q2
        simp only [Bool.and_true, Option.some.injEq] at he
        rw [q1, he]
      · cases he
    simp only [flatEq] at hf
    split at hf
    · rename_i hu
      obtain ⟨x, y, hx, hy, hq⟩ := leaf 0 (by simpa using hf.symm) (agOf hu)
      unfold eqCell at hq
      split at hq
      · contradiction
      · have q1 := ra_bool hx; have q2 := ra_bool hy
        cases hq
        rw [q1, q2, run_equalIn_bool' w D t _ _ hu]
      · contradiction
      · cases hq
    · rename_i k hu
      obtain ⟨x, y, hx, hy, hq⟩ := leaf 1 (by simpa using hf.symm) (agOf hu)
      unfold eqCell at hq
      split at hq
      · rename_i k1 a1 k2 b1 _
        have q1 := ra_int hx; have q2 := ra_int hy
        cases hk : k1 == k2 with
        | true =>
          rw [hk] at hq
          simp only [cond_true, Option.some.injEq] at hq
          have hk' : k1 = k2 := by simpa using hk
          subst hk'
          rw [q1, q2, run_equalIn_int w D t k1 k _ _ hu, hq]
        | false => rw [hk] at hq; simp at hq
      · contradiction
      · contradiction
      · cases hq
    · rename_i hu
      obtain ⟨x, y, hx, hy, hq⟩ := leaf 2 (by simpa using hf.symm) (agOf hu)
      unfold eqCell at hq
      split at hq
      · contradiction
      · contradiction
      · have q1 := ra_str hx; have q2 := ra_str hy
        simp only [Option.some.injEq] at hq
        rw [q1.1, q2.1, run_equalIn_string w D t _ _ hu, bytes_toList, bytes_toList, hq]
      · cases hq
    · rename_i fs hu
      have h0 := agOf hu
      subst h0
      split at hf
      · cases hf
      · rename_i hst
        obtain ⟨vx, rfl, _, _⟩ := ra_agg hx
        obtain ⟨vy, rfl, _, _⟩ := ra_agg hy
        have hfo : P.fieldsOf t = fs := by simp [Program.fieldsOf, hu]
        rw [run_equalIn_struct w D t vx vy (by rw [hfo]; exact hu) (by simpa using hst), hfo]
        exact eq_fields (rec := flatEq P d) (fun t' ks' h' => ih t' ks' h' D (by omega)) hx hy w fs.toList 0 ks b hf (by simpa using he)
    · rename_i n e hu
      have h0 := agOf hu
      subst h0
      split at hf
      · rename_i l ag' hl hag'
        split at hf
        · rename_i hcond
          simp only [Option.some.injEq] at hf
          subst hf
          obtain ⟨vx, rfl, _, _⟩ := ra_agg hx
          obtain ⟨vy, rfl, _, _⟩ := ra_agg hy
          have hsz := hcond.1
          unfold tySize at hsz
          cases hi : P.info? e with
          | none => rw [hi] at hsz; cases hsz
          | some ie =>
            have hco : P.cellsOf e = l.length := by
              rw [hi] at hsz
              simp only [Option.map_some, Option.some.injEq] at hsz
              simp [Program.cellsOf, hi, hsz]
            rw [run_equalIn_array w D vx vy hu hi, hco, List.range_eq_range']
            exact eq_items (n := n) (ih e l hl D (by omega)) hag' hcond.1 hcond.2.1 hcond.2.2 hx hy w n 0 b (by simpa using he)
        · cases hf
      · cases hf
    · cases hf

theorem s_eqs (h : Rel X σ β s a w) (hd : ∀ i, o.dst = some i → i < s.n) {neg : Bool} {t t' : TypeId} {ks : List Nat} {x y : Operand} {x' y' : Opd} (ho : o.op = .binOp (if neg then .neq else .eql) t x y t') (hx : cOpd x = some x') (hy : cOpd y = some y')
    (hf : flatEq P 16 t = some ks) (hg : P.eqGuardType P.depth t = false) (ha : tyAgg P t = some true)
    (hv : vcOp (.eqs neg ks x' y') o.dst s K KP) : o.wp P a w (Nx X s.n s.k σ β w K) (Pn X s σ β w KP) := by
  simp only [vcOp] at hv
  have h1 := ev_ok h hx
  have h2 := ev_ok h hy
  split at hv
  · rename_i xs ys e1 e2
    rw [e1] at h1; rw [e2] at h2
    split at hv
    · rename_i b hb
      obtain ⟨vx, q1, _, _⟩ := ra_agg h1
      obtain ⟨vy, q2, _, _⟩ := ra_agg h2
      have hrun := eq_run (P := P) (σ := σ) (β := β) 16 t ks hf 10000 (by decide) true ha xs ys _ _ b w h1 h2 hb
      refine fin h hd (.d _ _ (.bool _)) ?_ hv
      cases neg with
      | true =>
        simp only [if_true] at ho
        rw [q1, q2] at hrun
        simp only [execOp, ho, q1, q2, Sem.run_bind, run_eqGuard_agg w _ t x y vx vy hg, Result.andThen_ok, run_neq_struct, hrun, Sem.run_pure, cond_true]
      | false =>
        simp only [Bool.false_eq_true, if_false] at ho
        rw [q1, q2] at hrun
        simp only [execOp, ho, q1, q2, Sem.run_bind, run_eqGuard_agg w _ t x y vx vy hg, Result.andThen_ok, run_eql_struct, hrun, Sem.run_pure, cond_false]
    · exact hv.elim
  · exact hv.elim

end
end Go.Vx

/- Contracts of calls, and the names of boxes across a call. -/
namespace Go.Vx
set_option linter.unusedVariables false
set_option linter.unusedSimpArgs false
open Go

def enumA : Nat → List A → List (Nat × A)
  | _, [] => []
  | i, a :: l => (i, a) :: enumA (i + 1) l

theorem look_enumA : ∀ (l : List A) (i j : Nat), look j (enumA i l) = if i ≤ j then l.getD (j - i) .any else .any := by
  intro l
  induction l with
  | nil => intro i j; simp [enumA, look]
  | cons x r ih =>
    intro i j
    rw [enumA, look_cons, ih]
    by_cases h : j = i
    · subst h; simp
    · rw [if_neg h]
      by_cases h2 : i ≤ j
      · rw [if_pos h2, if_pos (by omega), show j - i = (j - (i + 1)) + 1 by omega]
        rfl
      · rw [if_neg h2, if_neg (by omega)]

/-- Below this number a box is the caller's. -/
def KB : Nat := 1000

/-- A call's state at its entry, or (for its results) at its end. -/
def St.io (vs : List A) (bx : List (Nat × List A)) (own : List (Loc × Nat)) : St := { n := vs.length, k := KB, t := enumA 0 vs, bx, own }

inductive Out where
  | ret (res : List A) (bx : List (Nat × List A)) (own : List (Loc × Nat))
  | pan (x : D) (bx : List (Nat × List A))

def pack (vs : Array Value) : Value := if h : vs.size = 1 then vs[0] else .tuple vs

def OutRel (X : Ctx) (σ : Store) (β : Names) (w : World) : Out → Ending → Prop
  | .ret res bx own, e => ∃ vs : Array Value, e = .returned (pack vs) ∧ Rel X σ β (St.io res bx own) ⟨vs, []⟩ w
  | .pan x bx, e => ∃ v, e = .panicked [{ v, recovered := false }] ∧ Reads σ x v ∧ Rel X σ β (St.io [] bx []) ⟨#[], []⟩ w

/-- A contract: what a call does. -/
def CS (P : Program) (f : FuncId) (args : List A) (bx : List (Nat × List A)) (own : List (Loc × Nat)) (R : Out → Prop) : Prop :=
  ∀ X σ β w vals, Rel X σ β (St.io args bx own) ⟨vals, []⟩ w → Calls P f vals w (fun e w' => ∃ o σ' β', R o ∧ OutRel X σ' β' w' o e ∧ Step X KB σ β w σ' β' w')

theorem CS.mono {P : Program} {f : FuncId} {args : List A} {bx : List (Nat × List A)} {own : List (Loc × Nat)} {R R' : Out → Prop} (h : CS P f args bx own R) (hr : ∀ o, R o → R' o) : CS P f args bx own R' :=
  fun X σ β w vals hrel => (h X σ β w vals hrel).mono (fun _ _ ⟨o, σ', β', q, r⟩ => ⟨o, σ', β', hr o q, r⟩)

/-- More is owned than is asked for. -/
theorem CS.own {P : Program} {f : FuncId} {args : List A} {bx : List (Nat × List A)} {own own' : List (Loc × Nat)} {R : Out → Prop} (h : CS P f args bx own R) (ho : ∀ p, p ∈ own → p ∈ own') : CS P f args bx own' R :=
  fun X σ β w vals hrel => h X σ β w vals (hrel.sub rfl rfl (fun _ => .inr rfl) ho)

/-! ### Names -/

def findN : List (Nat × Nat) → Nat → Option Nat
  | [], _ => none
  | (m, n) :: r, x => bif x == m then some n else findN r x

def hasN : List (Nat × Nat) → Nat → Bool
  | [], _ => false
  | (m, _) :: r, x => (x == m) || hasN r x

def flipN : List (Nat × Nat) → List (Nat × Nat)
  | [] => []
  | (m, n) :: r => (n, m) :: flipN r

mutual
def renA (ρ : List (Nat × Nat)) : A → Option A
  | .any => some .any
  | .d x => some (.d x)
  | .ptr m o => match findN ρ m with
    | some n => some (.ptr n o)
    | none => none
  | .agg cs => match renL ρ cs with
    | some l => some (.agg l)
    | none => none
  | .clo f cs => match renL ρ cs with
    | some l => some (.clo f l)
    | none => none
  | .tup cs => match renL ρ cs with
    | some l => some (.tup l)
    | none => none
  | .bsl m o l c => match findN ρ m with
    | some n => some (.bsl n o l c)
    | none => none
  | .ep e => some (.ep e)
  | .nil c => some (.nil c)
  | .ful c es => some (.ful c es)
def renL (ρ : List (Nat × Nat)) : List A → Option (List A)
  | [] => some []
  | x :: l => match renA ρ x, renL ρ l with
    | some y, some m => some (y :: m)
    | _, _ => none
end

theorem renL_spec (ρ : List (Nat × Nat)) : ∀ (l m : List A), renL ρ l = some m → m.length = l.length ∧ ∀ (i : Nat) (y : A), m[i]? = some y → ∃ x, l[i]? = some x ∧ renA ρ x = some y := by
  intro l
  induction l with
  | nil => intro m h; simp only [renL, Option.some.injEq] at h; subst h; simp
  | cons x l ih =>
    intro m h
    simp only [renL] at h
    split at h
    · rename_i y m' h1 h2
      simp only [Option.some.injEq] at h
      subst h
      obtain ⟨i1, i2⟩ := ih m' h2
      refine ⟨by simp [i1], ?_⟩
      intro i z hz
      cases i with
      | zero => simp only [List.getElem?_cons_zero, Option.some.injEq] at hz; subst hz; exact ⟨x, rfl, h1⟩
      | succ i => exact i2 i z (by simpa using hz)
    · cases h

theorem ren_ok {σ : Store} {β γ : Names} {ρ : List (Nat × Nat)} (hρ : ∀ m n b, findN ρ m = some n → β m = some b → γ n = some b) {x : A} {v : Value} (h : RA σ β x v) : ∀ {y : A}, renA ρ x = some y → RA σ γ y v := by
  induction h with
  | any v => intro y hy; simp only [renA, Option.some.injEq] at hy; subst hy; exact .any v
  | d x v h => intro y hy; simp only [renA, Option.some.injEq] at hy; subst hy; exact .d x v h
  | ptr n off b h =>
    intro y hy
    simp only [renA] at hy
    split at hy
    · rename_i m hm; cases hy; exact .ptr m off b (hρ _ _ _ hm h)
    · cases hy
  | agg cs vs hn _ ih =>
    intro y hy
    simp only [renA] at hy
    split at hy
    · rename_i l hl
      cases hy
      obtain ⟨h1, h2⟩ := renL_spec ρ cs l hl
      refine .agg l vs (by omega) (fun i z hz => ?_)
      obtain ⟨x, hx, hr⟩ := h2 i z hz
      exact ih i x hx hr
    · cases hy
  | clo f cs vs hn _ ih =>
    intro y hy
    simp only [renA] at hy
    split at hy
    · rename_i l hl
      cases hy
      obtain ⟨h1, h2⟩ := renL_spec ρ cs l hl
      refine .clo f l vs (by omega) (fun i z hz => ?_)
      obtain ⟨x, hx, hr⟩ := h2 i z hz
      exact ih i x hx hr
    · cases hy
  | tup cs vs hn _ ih =>
    intro y hy
    simp only [renA] at hy
    split at hy
    · rename_i l hl
      cases hy
      obtain ⟨h1, h2⟩ := renL_spec ρ cs l hl
      refine .tup l vs (by omega) (fun i z hz => ?_)
      obtain ⟨x, hx, hr⟩ := h2 i z hz
      exact ih i x hx hr
    · cases hy
  | bsl n off len cap b h =>
    intro y hy
    simp only [renA] at hy
    split at hy
    · rename_i m hm; cases hy; exact .bsl m off len cap b (hρ _ _ _ hm h)
    · cases hy
  | ep e b off f hs hr =>
    intro y hy
    simp only [renA, Option.some.injEq] at hy; subst hy
    exact .ep e b off f hs hr
  | nil c =>
    intro y hy
    simp only [renA, Option.some.injEq] at hy; subst hy
    exact .nil c
  | ful c es v h hf =>
    intro y hy
    simp only [renA, Option.some.injEq] at hy; subst hy
    exact .ful c es v h hf

/-- The names that the boxes handed over get: by the place of the argument. -/
def mkCaps (ρ : List (Nat × Nat)) (base : Nat) : Nat → List A → List (Nat × Nat)
  | _, [] => ρ
  | j, x :: l => match x with
    | .ptr m _ => mkCaps (bif hasN ρ m then ρ else ρ ++ [(m, base + j)]) base (j + 1) l
    | _ => mkCaps ρ base (j + 1) l

def mkRen (ρ : List (Nat × Nat)) : Nat → List A → List (Nat × Nat)
  | _, [] => ρ
  | i, x :: l => match x with
    | .ptr m _ => mkRen (bif hasN ρ m then ρ else ρ ++ [(m, i)]) (i + 1) l
    | .bsl m _ _ _ => mkRen (bif hasN ρ m then ρ else ρ ++ [(m, i)]) (i + 1) l
    | .clo _ cs => mkRen (mkCaps ρ (20 * (i + 1)) 0 cs) (i + 1) l
    | _ => mkRen ρ (i + 1) l

/-- No name twice, on either side; the callee's ones are the caller's boxes there. -/
def okRen : List (Nat × Nat) → Bool
  | [] => true
  | (m, n) :: r => !(hasN r m) && !(hasN (flipN r) n) && Nat.blt n KB && okRen r

/-- The boxes handed over. -/
def passB (ρ0 : List (Nat × Nat)) (bx : List (Nat × List A)) : List (Nat × Nat) → Option (List (Nat × List A))
  | [] => some []
  | (m, n) :: r => match lookB m bx, passB ρ0 bx r with
    | some cs, some l => match renL ρ0 cs with
      | some cs' => some ((n, cs') :: l)
      | none => none
    | _, _ => none

/-- The ownership handed over: of one temporary that is an argument. -/
def passT (po : Option Nat) (own : List (Loc × Nat)) (ops : List Opd) : List (Loc × Nat) :=
  match po with
  | some i => match ops[i]? with
    | some (.t j) => match ownOf j own with
      | some c => [(.t i, c)]
      | none => []
    | _ => []
  | none => []

def passOB (ρ : List (Nat × Nat)) : List (Loc × Nat) → List (Loc × Nat)
  | [] => []
  | (.t _, _) :: l => passOB ρ l
  | (.b m o, c) :: l => match findN ρ m with
    | some n => (.b n o, c) :: passOB ρ l
    | none => passOB ρ l

/-- What the caller keeps owning. -/
def keepT (po : Option Nat) (own : List (Loc × Nat)) (ops : List Opd) : List (Loc × Nat) :=
  match po with
  | some i => match ops[i]? with
    | some (.t j) => dropOt j own
    | _ => own
  | none => own

def keepOB (ρ : List (Nat × Nat)) : List (Loc × Nat) → List (Loc × Nat)
  | [] => []
  | (.t i, c) :: l => (.t i, c) :: keepOB ρ l
  | (.b m o, c) :: l => bif hasN ρ m then keepOB ρ l else (.b m o, c) :: keepOB ρ l

/-- The name of a new box that comes back. -/
def newName (φ : List (Nat × Nat)) (nm : Nat) : List (Nat × List A) → List (Nat × Nat)
  | [] => []
  | (n, _) :: l => bif hasN φ n then newName φ nm l else [(n, nm)]

/-- The boxes that come back. -/
def backB (ρb : List (Nat × Nat)) (bx : List (Nat × List A)) : List (Nat × List A) → Option (List (Nat × List A))
  | [] => some bx
  | (n, cs) :: l => match backB ρb bx l with
    | none => none
    | some r => match findN ρb n with
      | none => some r
      | some m => match renL ρb cs with
        | none => none
        | some cs' => match lookB m r with
          | some _ => some (setB m cs' r)
          | none => some ((m, cs') :: r)

def backO (ρb : List (Nat × Nat)) (d : Option Nat) (one : Bool) : List (Loc × Nat) → List (Loc × Nat)
  | [] => []
  | (.t i, c) :: l => match d, one, i with
    | some d, true, 0 => (.t d, c) :: backO ρb (some d) one l
    | d, one, _ => backO ρb d one l
  | (.b n o, c) :: l => match findN ρb n with
    | some m => (.b m o, c) :: backO ρb d one l
    | none => backO ρb d one l

def keepD (d : Option Nat) (keep : List (Loc × Nat)) : List (Loc × Nat) :=
  match d with
  | some d => dropOt d keep
  | none => keep

def setT (d : Option Nat) (x : A) (t : List (Nat × A)) : List (Nat × A) :=
  match d with
  | some d => (d, x) :: t
  | none => t

/-- What a call hands back, in one temporary. -/
def resA : List A → A
  | [x] => x
  | l => .tup l

def isOne : List A → Bool
  | [_] => true
  | _ => false

/-- Behind a call. -/
def vcBack (d : Option Nat) (s : St) (φ : List (Nat × Nat)) (keep : List (Loc × Nat)) (K : St → Prop) (KP : D → St → Prop) : Out → Prop
  | .ret res bx own =>
    lookB (s.k + d.getD 0) s.bx = none ∧
    match backB (φ ++ newName φ (s.k + d.getD 0) bx) s.bx bx, renL (φ ++ newName φ (s.k + d.getD 0) bx) res with
    | some bx', some res' =>
      K { s with t := setT d (resA res') s.t, bx := bx', own := backO (φ ++ newName φ (s.k + d.getD 0) bx) d (isOne res') own ++ keepD d keep }
    | _, _ => False
  | .pan x bx => match backB φ s.bx bx with
    | some bx' => KP x { s with bx := bx', own := [] }
    | none => False

/-- A call. -/
def vcCall (P : Program) (f : FuncId) (args : List A) (ops : List Opd) (po : Option Nat) (d : Option Nat) (s : St) (K : St → Prop) (KP : D → St → Prop) : Prop :=
  KB ≤ s.k ∧
  match okRen (mkRen [] 0 args), renL (mkRen [] 0 args) args, passB (mkRen [] 0 args) s.bx (mkRen [] 0 args) with
  | true, some args', some bx' => CS P f args' bx' (passT po s.own ops ++ passOB (mkRen [] 0 args) s.own) (vcBack d s (flipN (mkRen [] 0 args)) (keepOB (mkRen [] 0 args) (keepT po s.own ops)) K KP)
  | _, _, _ => False

end Go.Vx

/- Soundness of calls. -/
namespace Go.Vx
set_option linter.unusedVariables false
set_option linter.unusedSimpArgs false
open Go

theorem findN_cons (m n x : Nat) (r : List (Nat × Nat)) : findN ((m, n) :: r) x = if x = m then some n else findN r x := by
  show (bif x == m then some n else findN r x) = _
  by_cases h : x = m
  · simp [h]
  · have : (x == m) = false := by simpa using h
    rw [this]; simp [h]

theorem hasN_iff (ρ : List (Nat × Nat)) (x : Nat) : hasN ρ x = true ↔ ∃ n, findN ρ x = some n := by
  induction ρ with
  | nil => simp [hasN, findN]
  | cons p r ih =>
    obtain ⟨m, n⟩ := p
    rw [findN_cons]
    simp only [hasN, Bool.or_eq_true, beq_iff_eq]
    by_cases h : x = m
    · simp [h]
    · simp [h, ih]

theorem hasN_false (ρ : List (Nat × Nat)) (x : Nat) : hasN ρ x = false ↔ findN ρ x = none := by
  cases h : hasN ρ x with
  | true => obtain ⟨n, hn⟩ := (hasN_iff ρ x).1 h; simp [hn]
  | false =>
    simp only [true_iff]
    cases hf : findN ρ x with
    | none => rfl
    | some n => have := (hasN_iff ρ x).2 ⟨n, hf⟩; rw [h] at this; cases this

theorem okRen_1 : ∀ (ρ : List (Nat × Nat)), okRen ρ = true → ∀ m n, findN ρ m = some n → findN (flipN ρ) n = some m ∧ n < KB := by
  intro ρ
  induction ρ with
  | nil => intro _ m n h; cases h
  | cons p r ih =>
    obtain ⟨m0, n0⟩ := p
    intro hok m n h
    simp only [okRen, Bool.and_eq_true, Bool.not_eq_true', Nat.blt_eq] at hok
    obtain ⟨⟨⟨h1, h2⟩, h3⟩, h4⟩ := hok
    rw [findN_cons] at h
    show findN ((n0, m0) :: flipN r) n = some m ∧ _
    rw [findN_cons]
    split at h
    · rename_i e; cases h; subst e; simp [h3]
    · obtain ⟨i1, i2⟩ := ih h4 m n h
      have : n ≠ n0 := fun e => by
        subst e
        have := (hasN_iff (flipN r) n).2 ⟨m, i1⟩
        rw [h2] at this; cases this
      rw [if_neg this]
      exact ⟨i1, i2⟩

theorem okRen_2 : ∀ (ρ : List (Nat × Nat)), okRen ρ = true → ∀ m n, findN (flipN ρ) n = some m → findN ρ m = some n := by
  intro ρ
  induction ρ with
  | nil => intro _ m n h; cases h
  | cons p r ih =>
    obtain ⟨m0, n0⟩ := p
    intro hok m n h
    simp only [okRen, Bool.and_eq_true, Bool.not_eq_true', Nat.blt_eq] at hok
    obtain ⟨⟨⟨h1, h2⟩, h3⟩, h4⟩ := hok
    have h : findN ((n0, m0) :: flipN r) n = some m := h
    rw [findN_cons] at h
    rw [findN_cons]
    split at h
    · rename_i e; cases h; subst e; simp
    · have i1 := ih h4 m n h
      have : m ≠ m0 := fun e => by
        subst e
        have := (hasN_iff r m).2 ⟨n, i1⟩
        rw [h1] at this; cases this
      rw [if_neg this]
      exact i1

theorem passB_spec {ρ0 : List (Nat × Nat)} {bx : List (Nat × List A)} : ∀ (ρ : List (Nat × Nat)) (l : List (Nat × List A)), passB ρ0 bx ρ = some l →
    (∀ n cs', lookB n l = some cs' → ∃ m cs, findN (flipN ρ) n = some m ∧ lookB m bx = some cs ∧ renL ρ0 cs = some cs') ∧
    (∀ n (m : Nat), findN (flipN ρ) n = some m → (∃ cs', lookB n l = some cs') ∧ ∃ cs, lookB m bx = some cs) := by
  intro ρ
  induction ρ with
  | nil => intro l h; simp only [passB, Option.some.injEq] at h; subst h; exact ⟨fun n cs h => by simp [lookB] at h, fun n m h => by simp [flipN, findN] at h⟩
  | cons p r ih =>
    obtain ⟨m0, n0⟩ := p
    intro l h
    simp only [passB] at h
    split at h
    · rename_i cs l' h1 h2
      split at h
      · rename_i cs' h3
        simp only [Option.some.injEq] at h
        subst h
        obtain ⟨i1, i2⟩ := ih l' h2
        constructor
        · intro n cs2 hn
          rw [lookB_cons] at hn
          show ∃ m cs, findN ((n0, m0) :: flipN r) n = some m ∧ _
          simp only [findN_cons]
          split at hn
          · rename_i e; cases hn; exact ⟨m0, cs, by simp [e], h1, h3⟩
          · rename_i e
            obtain ⟨m, cs, q1, q2, q3⟩ := i1 n cs2 hn
            exact ⟨m, cs, by simp [e, q1], q2, q3⟩
        · intro n m hn
          have hn : findN ((n0, m0) :: flipN r) n = some m := hn
          rw [findN_cons] at hn
          simp only [lookB_cons]
          split at hn
          · rename_i e; cases hn; exact ⟨⟨cs', by simp [e]⟩, cs, h1⟩
          · rename_i e
            obtain ⟨⟨cs2, q1⟩, q2⟩ := i2 n m hn
            exact ⟨⟨cs2, by simp [e, q1]⟩, q2⟩
      · cases h
    · cases h

theorem mem_passOB {ρ : List (Nat × Nat)} {l : Loc} {c : Nat} : ∀ {ow : List (Loc × Nat)}, (l, c) ∈ passOB ρ ow → ∃ m n o, l = .b n o ∧ (Loc.b m o, c) ∈ ow ∧ findN ρ m = some n := by
  intro ow
  induction ow with
  | nil => intro h; cases h
  | cons p r ih =>
    obtain ⟨q, e⟩ := p
    cases q with
    | t i => intro h; obtain ⟨m, n, o, h1, h2, h3⟩ := ih h; exact ⟨m, n, o, h1, .tail _ h2, h3⟩
    | b m o =>
      intro h
      simp only [passOB] at h
      split at h
      · rename_i n hn
        rcases List.mem_cons.1 h with e1 | h
        · cases e1; exact ⟨m, n, o, rfl, .head _, hn⟩
        · obtain ⟨m, n, o, h1, h2, h3⟩ := ih h; exact ⟨m, n, o, h1, .tail _ h2, h3⟩
      · obtain ⟨m, n, o, h1, h2, h3⟩ := ih h; exact ⟨m, n, o, h1, .tail _ h2, h3⟩

theorem mem_keepOB {ρ : List (Nat × Nat)} {l : Loc} {c : Nat} : ∀ {ow : List (Loc × Nat)}, (l, c) ∈ keepOB ρ ow → (l, c) ∈ ow ∧ ∀ m o, l = .b m o → findN ρ m = none := by
  intro ow
  induction ow with
  | nil => intro h; cases h
  | cons p r ih =>
    obtain ⟨q, e⟩ := p
    cases q with
    | t i =>
      intro h
      simp only [keepOB, List.mem_cons] at h
      rcases h with e1 | h
      · cases e1; exact ⟨.head _, by simp⟩
      · obtain ⟨h1, h2⟩ := ih h; exact ⟨.tail _ h1, h2⟩
    | b m o =>
      intro h
      cases hm : hasN ρ m with
      | true =>
        simp only [keepOB, hm, cond_true] at h
        obtain ⟨h1, h2⟩ := ih h; exact ⟨.tail _ h1, h2⟩
      | false =>
        simp only [keepOB, hm, cond_false, List.mem_cons] at h
        rcases h with e1 | h
        · cases e1
          refine ⟨.head _, fun m' o' e => ?_⟩
          injection e with e1 e2
          subst e1
          exact (hasN_false ρ m).1 hm
        · obtain ⟨h1, h2⟩ := ih h; exact ⟨.tail _ h1, h2⟩

theorem mem_keepT {po : Option Nat} {ops : List Opd} {l : Loc} {c : Nat} {ow : List (Loc × Nat)} (h : (l, c) ∈ keepT po ow ops) : (l, c) ∈ ow ∧ ∀ i j, po = some i → ops[i]? = some (.t j) → l ≠ .t j := by
  unfold keepT at h
  split at h
  · rename_i i
    split at h
    · rename_i j hj
      obtain ⟨h1, h2⟩ := mem_dropOt h
      refine ⟨h1, fun i' j' e e2 => ?_⟩
      cases e
      rw [hj] at e2
      cases e2
      exact h2
    · rename_i hj
      exact ⟨h, fun i' j' e e2 => by cases e; exact (hj j' e2).elim⟩
  · exact ⟨h, fun i j e => by cases e⟩

theorem mem_passT {po : Option Nat} {ops : List Opd} {l : Loc} {c : Nat} {ow : List (Loc × Nat)} (h : (l, c) ∈ passT po ow ops) : ∃ i j, po = some i ∧ ops[i]? = some (.t j) ∧ l = .t i ∧ (Loc.t j, c) ∈ ow := by
  unfold passT at h
  split at h
  · rename_i i
    split at h
    · rename_i j hj
      split at h
      · rename_i c' hc
        simp only [List.mem_singleton, Prod.mk.injEq] at h
        obtain ⟨rfl, rfl⟩ := h
        exact ⟨i, j, rfl, hj, rfl, mem_take_own (s := { (default : St) with own := ow }) hc⟩
      · cases h
    · cases h
  · cases h

section
variable {P : Program} {X : Ctx} {σ : Store} {β : Names} {s : St} {a : Act} {w : World}

/-- What is foreign to the callee. -/
def XC (X : Ctx) (β : Names) (a : Act) (w : World) (ρ : List (Nat × Nat)) (keep : List (Loc × Nat)) : Ctx := ⟨fun b =>
  X b ∨ (∃ m, findN ρ m = none ∧ β m = some b) ∨ ∃ l c v, (l, c) ∈ keep ∧ locVal β a w l = some v ∧ ownB v = some b, []⟩

def BC (β : Names) (φ : List (Nat × Nat)) : Names := fun n => (findN φ n).bind β

theorem call_in (h : Rel X σ β s a w) {args args' : List A} {ops : List Opd} {po : Option Nat} {vals : Array Value} {bx' : List (Nat × List A)} (ρ : List (Nat × Nat)) (hok1 : ∀ m n, findN ρ m = some n → findN (flipN ρ) n = some m) (hok2 : ∀ m n, findN (flipN ρ) n = some m → findN ρ m = some n) (hargs : renL ρ args = some args') (hpass : passB ρ s.bx ρ = some bx')
    (hlen : vals.size = args.length) (hvals : ∀ i x, args[i]? = some x → RA σ β x (vals.getD i undef)) (hops : ∀ (i j : Nat), ops[i]? = some (Opd.t j) → vals.getD i undef = a.tmps.getD j undef) :
    Rel (XC X β a w ρ (keepOB ρ (keepT po s.own ops))) σ (BC β (flipN ρ)) (St.io args' bx' (passT po s.own ops ++ passOB ρ s.own)) ⟨vals, []⟩ w := by
  obtain ⟨p1, p2⟩ := passB_spec ρ bx' hpass
  obtain ⟨r1, r2⟩ := renL_spec ρ args args' hargs
  have hρ : ∀ m n b, findN ρ m = some n → β m = some b → BC β (flipN ρ) n = some b := by
    intro m n b hm hb
    simp only [BC, hok1 m n hm, Option.bind_some, hb]
  have hBC : ∀ n b, BC β (flipN ρ) n = some b → ∃ m, findN (flipN ρ) n = some m ∧ findN ρ m = some n ∧ β m = some b := by
    intro n b hb
    simp only [BC] at hb
    cases hf : findN (flipN ρ) n with
    | none => rw [hf] at hb; cases hb
    | some m => rw [hf] at hb; exact ⟨m, rfl, hok2 m n hf, hb⟩
  have notX : ∀ m n b, findN ρ m = some n → β m = some b → ¬ XC X β a w ρ (keepOB ρ (keepT po s.own ops)) b := by
    intro m n b hm hb hx
    obtain ⟨cs, hcs⟩ := h.dom m b hb
    obtain ⟨b', arr, T, fz, hb', hh, hsz, hr, hxx, hσ, hf⟩ := h.box m cs hcs
    rw [hb] at hb'; cases hb'
    rcases hx with hx | ⟨m', hm', hb'⟩ | ⟨l, c, v, hl, hv, hob⟩
    · exact hxx hx
    · have := h.inj m m' b hb hb'
      subst this
      rw [hm] at hm'; cases hm'
    · exact (h.ownLt (mem_keepT (mem_keepOB hl).1).1 hv hob).2.2 m hb
  -- where the owned places of the callee come from
  have ownFrom : ∀ l c, (l, c) ∈ passT po s.own ops ++ passOB ρ s.own → ∃ l0 v, (l0, c) ∈ s.own ∧ locVal β a w l0 = some v ∧ locVal (BC β (flipN ρ)) ⟨vals, []⟩ w l = some v ∧ (l0, c) ∉ keepOB ρ (keepT po s.own ops) ∧
      (∀ c', (l0, c') ∉ keepOB ρ (keepT po s.own ops)) ∧ ((∃ i j, l = .t i ∧ l0 = .t j ∧ po = some i) ∨ ∃ m n o, l = .b n o ∧ l0 = .b m o ∧ findN ρ m = some n) := by
    intro l c hm
    rcases List.mem_append.1 hm with hm | hm
    · obtain ⟨i, j, rfl, hj, rfl, hown⟩ := mem_passT hm
      obtain ⟨v, hv, _⟩ := h.own _ _ hown
      have hne : ∀ c', (Loc.t j, c') ∉ keepOB ρ (keepT (some i) s.own ops) := fun c' hk => (mem_keepT (mem_keepOB hk).1).2 i j rfl hj rfl
      refine ⟨.t j, v, hown, hv, ?_, hne c, hne, .inl ⟨i, j, rfl, rfl, rfl⟩⟩
      simp only [locVal, Option.some.injEq] at hv ⊢
      rw [← hv]
      exact hops i j hj
    · obtain ⟨m, n, o, rfl, hown, hn⟩ := mem_passOB hm
      obtain ⟨v, hv, _⟩ := h.own _ _ hown
      have hne : ∀ c', (Loc.b m o, c') ∉ keepOB ρ (keepT po s.own ops) := fun c' hk => by
        have := (mem_keepOB hk).2 m o rfl
        rw [hn] at this; cases this
      refine ⟨.b m o, v, hown, hv, ?_, hne c, hne, .inr ⟨m, n, o, rfl, rfl, hn⟩⟩
      simp only [locVal] at hv ⊢
      cases hb : β m with
      | none => rw [hb] at hv; cases hv
      | some b => rw [hb] at hv; rw [hρ m n b hn hb]; exact hv
  refine ⟨by simp [St.io, r1, hlen], rfl, ?_, h.st, ?_, ?_, ?_, ?_, ?_, ?_⟩
  · intro i
    show RA σ _ (look i (enumA 0 args')) (vals.getD i undef)
    rw [look_enumA, if_pos (Nat.zero_le _), Nat.sub_zero]
    rw [List.getD_eq_getElem?_getD]
    cases hy : args'[i]? with
    | none => exact .any _
    | some y =>
      obtain ⟨x, hx, hr⟩ := r2 i y hy
      exact ren_ok hρ (hvals i x hx) hr
  · intro b hx
    rcases hx with hx | ⟨m', hm', hb'⟩ | ⟨l, c, v, hl, hv, hob⟩
    · exact h.xs b hx
    · exact h.lt hb'
    · exact (h.ownLt (mem_keepT (mem_keepOB hl).1).1 hv hob).1
  · intro n cs' hn
    obtain ⟨m, cs, q1, q2, q3⟩ := p1 n cs' hn
    have hm := hok2 m n q1
    obtain ⟨b, arr, T, fz, hb, hh, hsz, hr, hxx, hσ, hf⟩ := h.box m cs q2
    obtain ⟨s1, s2⟩ := renL_spec ρ cs cs' q3
    refine ⟨b, arr, T, fz, hρ m n b hm hb, hh, by omega, ?_, notX m n b hm hb, hσ, hf⟩
    intro j y hy
    obtain ⟨x, hx, hrr⟩ := s2 j y hy
    exact ren_ok hρ (hr j x hx) hrr
  · intro n b hb
    obtain ⟨m, q1, _, _⟩ := hBC n b hb
    exact (p2 n m q1).1
  · intro n1 n2 b h1 h2
    obtain ⟨m1, _, q1, q2⟩ := hBC n1 b h1
    obtain ⟨m2, _, q3, q4⟩ := hBC n2 b h2
    have := h.inj m1 m2 b q2 q4
    subst this
    rw [q1] at q3
    cases q3; rfl
  · intro l c hl
    obtain ⟨l0, v, o1, o2, o3, o4, o5, _⟩ := ownFrom l c hl
    obtain ⟨v', hv', hov⟩ := h.own l0 c o1
    rw [o2] at hv'; cases hv'
    refine ⟨v, o3, ?_⟩
    intro b off len cap e hlt
    obtain ⟨k1, k2, k3, k4⟩ := hov b off len cap e hlt
    refine ⟨k1, k2, ?_, ?_⟩
    · rintro (hx | ⟨m, hm, hb⟩ | ⟨l2, c2, v2, hl2, hv2, hb2⟩)
      · exact k3 hx
      · exact k4 m hb
      · have hne : l2 ≠ l0 := fun e => by subst e; exact o5 c2 hl2
        exact h.sep l2 c2 l0 c (mem_keepT (mem_keepOB hl2).1).1 o1 hne v2 v b hv2 o2 hb2 (by simp [e, ownB, hlt])
    · intro n hn
      obtain ⟨m, _, _, q2⟩ := hBC n b hn
      exact k4 m q2
  · intro l c l' c' hl hl' hne v v' b hv hv' hb
    obtain ⟨l0, u, o1, o2, o3, _, _, o6⟩ := ownFrom l c hl
    obtain ⟨l0', u', o1', o2', o3', _, _, o6'⟩ := ownFrom l' c' hl'
    rw [o3] at hv; cases hv
    rw [o3'] at hv'; cases hv'
    refine h.sep l0 c l0' c' o1 o1' ?_ v v' b o2 o2' hb
    rcases o6 with ⟨i, j, rfl, rfl, q⟩ | ⟨m, n, o, rfl, rfl, q⟩ <;> rcases o6' with ⟨i', j', rfl, rfl, q'⟩ | ⟨m', n', o', rfl, rfl, q'⟩
    · rw [q] at q'; cases q'; exact (hne rfl).elim
    · simp
    · simp
    · intro e
      injection e with e1 e2
      subst e1; subst e2
      rw [q] at q'
      cases q'
      exact hne rfl


end

/-- The boxes that have come back. -/
theorem backB_spec {ρb : List (Nat × Nat)} {bx : List (Nat × List A)} : ∀ (l r : List (Nat × List A)), backB ρb bx l = some r →
    (∀ m ds, lookB m r = some ds → (∃ n cs, findN ρb n = some m ∧ lookB n l = some cs ∧ renL ρb cs = some ds) ∨ ((∀ n, findN ρb n = some m → lookB n l = none) ∧ lookB m bx = some ds)) ∧
    (∀ m (n : Nat), findN ρb n = some m → lookB n l ≠ none → lookB m r ≠ none) ∧ (∀ m, lookB m bx ≠ none → lookB m r ≠ none) := by
  intro l
  induction l with
  | nil =>
    intro r h
    simp only [backB, Option.some.injEq] at h
    subst h
    exact ⟨fun m ds hm => .inr ⟨fun _ _ => rfl, hm⟩, fun m n _ h => (h rfl).elim, fun m h => h⟩
  | cons p l ih =>
    obtain ⟨n0, cs0⟩ := p
    intro r h
    simp only [backB] at h
    split at h
    · cases h
    · rename_i r0 hr0
      obtain ⟨i1, i2, i3⟩ := ih r0 hr0
      split at h
      · rename_i hn0
        simp only [Option.some.injEq] at h
        subst h
        refine ⟨?_, ?_, i3⟩
        · intro m ds hm
          rcases i1 m ds hm with ⟨n, cs, q1, q2, q3⟩ | ⟨q1, q2⟩
          · left
            refine ⟨n, cs, q1, ?_, q3⟩
            rw [lookB_cons, if_neg (fun e => by subst e; rw [hn0] at q1; cases q1)]; exact q2
          · right
            refine ⟨fun n hn => ?_, q2⟩
            rw [lookB_cons, if_neg (fun e => by subst e; rw [hn0] at hn; cases hn)]; exact q1 n hn
        · intro m n hn hl
          rw [lookB_cons, if_neg (fun e => by subst e; rw [hn0] at hn; cases hn)] at hl
          exact i2 m n hn hl
      · rename_i m0 hm0
        split at h
        · cases h
        · rename_i cs0' hcs0
          have hlook : ∀ m, lookB m r = if m = m0 then some cs0' else lookB m r0 := by
            intro m
            split at h
            · rename_i q hq
              simp only [Option.some.injEq] at h
              subst h
              rw [lookB_setB]
              by_cases e : m = m0
              · simp [e, hq]
              · simp [e]
            · simp only [Option.some.injEq] at h
              subst h
              rw [lookB_cons]
          refine ⟨?_, ?_, ?_⟩
          · intro m ds hm
            rw [hlook] at hm
            split at hm
            · rename_i e
              cases hm
              subst e
              exact .inl ⟨n0, cs0, hm0, by rw [lookB_cons, if_pos rfl], hcs0⟩
            · rename_i e
              rcases i1 m ds hm with ⟨n, cs, q1, q2, q3⟩ | ⟨q1, q2⟩
              · left
                refine ⟨n, cs, q1, ?_, q3⟩
                rw [lookB_cons, if_neg (fun e2 => by subst e2; rw [hm0] at q1; cases q1; exact e rfl)]; exact q2
              · right
                refine ⟨fun n hn => ?_, q2⟩
                rw [lookB_cons, if_neg (fun e2 => by subst e2; rw [hm0] at hn; cases hn; exact e rfl)]; exact q1 n hn
          · intro m n hn hl
            rw [hlook]
            split
            · simp
            · rename_i e
              rw [lookB_cons, if_neg (fun e2 => by subst e2; rw [hm0] at hn; cases hn; exact e rfl)] at hl
              exact i2 m n hn hl
          · intro m hm
            rw [hlook]
            split
            · simp
            · exact i3 m hm

theorem findN_append (l r : List (Nat × Nat)) (x : Nat) : findN (l ++ r) x = match findN l x with | some n => some n | none => findN r x := by
  induction l with
  | nil => rfl
  | cons p l ih =>
    obtain ⟨m, n⟩ := p
    rw [List.cons_append, findN_cons, findN_cons, ih]
    split <;> rfl

theorem newName_spec (φ : List (Nat × Nat)) (nm : Nat) : ∀ (l : List (Nat × List A)), newName φ nm l = [] ∨ ∃ n, newName φ nm l = [(n, nm)] ∧ findN φ n = none := by
  intro l
  induction l with
  | nil => exact .inl rfl
  | cons p l ih =>
    obtain ⟨n, cs⟩ := p
    cases h : hasN φ n with
    | true => simp only [newName, h, cond_true]; exact ih
    | false => simp only [newName, h, cond_false]; exact .inr ⟨n, rfl, (hasN_false φ n).1 h⟩

section
variable {P : Program} {X : Ctx} {σ : Store} {β : Names} {s : St} {a : Act} {w : World}

theorem mem_backO {ρb : List (Nat × Nat)} {d : Option Nat} {one : Bool} {l : Loc} {c : Nat} : ∀ {ow : List (Loc × Nat)}, (l, c) ∈ backO ρb d one ow →
    (∃ d0, d = some d0 ∧ one = true ∧ l = .t d0 ∧ (Loc.t 0, c) ∈ ow) ∨ ∃ m n o, l = .b m o ∧ (Loc.b n o, c) ∈ ow ∧ findN ρb n = some m := by
  intro ow
  induction ow with
  | nil => intro h; cases h
  | cons p r ih =>
    obtain ⟨q, e⟩ := p
    have lift : (l, c) ∈ backO ρb d one r → (∃ d0, d = some d0 ∧ one = true ∧ l = .t d0 ∧ (Loc.t 0, c) ∈ (q, e) :: r) ∨ ∃ m n o, l = .b m o ∧ (Loc.b n o, c) ∈ (q, e) :: r ∧ findN ρb n = some m := by
      intro h
      rcases ih h with ⟨d0, h1, h2, h3, h4⟩ | ⟨m, n, o, h1, h2, h3⟩
      · exact .inl ⟨d0, h1, h2, h3, .tail _ h4⟩
      · exact .inr ⟨m, n, o, h1, .tail _ h2, h3⟩
    cases q with
    | t i =>
      intro h
      cases d with
      | none => exact lift h
      | some d0 =>
        cases one with
        | false => exact lift h
        | true =>
          cases i with
          | zero =>
            simp only [backO] at h
            rcases List.mem_cons.1 h with e1 | h
            · cases e1; exact .inl ⟨d0, rfl, rfl, rfl, .head _⟩
            · exact lift h
          | succ i => exact lift h
    | b n o =>
      intro h
      simp only [backO] at h
      split at h
      · rename_i m hm
        rcases List.mem_cons.1 h with e1 | h
        · cases e1; exact .inr ⟨m, n, o, rfl, .head _, hm⟩
        · exact lift h
      · exact lift h

theorem mem_keepD {d : Option Nat} {l : Loc} {c : Nat} {ow : List (Loc × Nat)} (h : (l, c) ∈ keepD d ow) : (l, c) ∈ ow ∧ ∀ d0, d = some d0 → l ≠ .t d0 := by
  unfold keepD at h
  split at h
  · rename_i d0
    obtain ⟨h1, h2⟩ := mem_dropOt h
    exact ⟨h1, fun d1 e => by cases e; exact h2⟩
  · exact ⟨h, fun d1 e => by cases e⟩

/-- Back from a call: the caller's state out of the callee's last one. -/
theorem call_back (h : Rel X σ β s a w) {po : Option Nat} {ops : List Opd} (ρ : List (Nat × Nat)) (hok : okRen ρ = true) (hpres : ∀ n m, findN (flipN ρ) n = some m → ∃ cs, lookB m s.bx = some cs)
    {nw : List (Nat × Nat)} {nm : Nat} (hnm : s.k ≤ nm) (hnew : nw = [] ∨ ∃ n, nw = [(n, nm)] ∧ findN (flipN ρ) n = none) (hfresh : lookB nm s.bx = none)
    {σ2 : Store} {β2 : Names} {w2 : World} {s2 : St} {a2 : Act} (hS : Step (XC X β a w ρ (keepOB ρ (keepT po s.own ops))) KB σ (BC β (flipN ρ)) w σ2 β2 w2)
    (hR : Rel (XC X β a w ρ (keepOB ρ (keepT po s.own ops))) σ2 β2 s2 a2 w2) {bx' : List (Nat × List A)} (hb : backB (flipN ρ ++ nw) s.bx s2.bx = some bx') :
    ∃ β3, Rel X σ2 β3 { s with bx := bx', own := keepOB ρ (keepT po s.own ops) } a w2 ∧ Step X s.k σ β w σ2 β3 w2 ∧
      (∀ n m b, findN (flipN ρ ++ nw) n = some m → β2 n = some b → β3 m = some b) ∧
      (∀ c v b, OwnV (XC X β a w ρ (keepOB ρ (keepT po s.own ops))) σ2 β2 w2 c v → ownB v = some b → OwnV X σ2 β3 w2 c v ∧
        ∀ l c' v', (l, c') ∈ keepOB ρ (keepT po s.own ops) → locVal β3 a w2 l = some v' → ownB v' ≠ some b) ∧
      (∀ c v, OwnV (XC X β a w ρ (keepOB ρ (keepT po s.own ops))) σ2 β2 w2 c v → ownB v = none → OwnV X σ2 β3 w2 c v) := by
  -- the new name, or none
  obtain ⟨nwAt, hnw1, hnw2⟩ : ∃ nwAt : Nat → Option Nat, (∀ n m, findN (flipN ρ ++ nw) n = some m ↔ findN (flipN ρ) n = some m ∨ (findN (flipN ρ) n = none ∧ m = nm ∧ nwAt nm = some n)) ∧ ∀ m n, nwAt m = some n → m = nm ∧ findN (flipN ρ) n = none := by
    rcases hnew with rfl | ⟨n0, rfl, hn0⟩
    · refine ⟨fun _ => none, ?_, by simp⟩
      intro n m
      rw [findN_append]
      cases hf : findN (flipN ρ) n with
      | none => simp [findN]
      | some q => simp
    · refine ⟨fun m => if m = nm then some n0 else none, ?_, ?_⟩
      · intro n m
        rw [findN_append]
        cases hf : findN (flipN ρ) n with
        | none =>
          have hc : findN [(n0, nm)] n = if n = n0 then some nm else none := by rw [findN_cons]; rfl
          simp only [hc]
          by_cases e : n = n0
          · subst e; simp [eq_comm]
          · have : ¬ n0 = n := fun e2 => e e2.symm
            simp [e, this]
        | some q => simp
      · intro m n h
        by_cases e : m = nm
        · simp only [e, if_true, Option.some.injEq] at h
          subst h; exact ⟨e, hn0⟩
        · simp [e] at h
  let β3 : Names := fun m => match nwAt m with | some n => β2 n | none => β m
  obtain ⟨sp1, sp2, sp3⟩ := backB_spec s2.bx bx' hb
  have hρφ : ∀ m n, findN (flipN ρ) n = some m → findN ρ m = some n := fun m n h => okRen_2 ρ hok m n h
  have hφρ : ∀ m n, findN ρ m = some n → findN (flipN ρ) n = some m ∧ n < KB := fun m n h => okRen_1 ρ hok m n h
  have hnmNot : ∀ m cs, lookB m s.bx = some cs → m ≠ nm := fun m cs hm e => by subst e; rw [hfresh] at hm; cases hm
  have hβnm : β nm = none := h.noName hfresh
  have hβ3old : ∀ m, m ≠ nm → β3 m = β m := by
    intro m hm
    show (match nwAt m with | some n => β2 n | none => β m) = β m
    cases hq : nwAt m with
    | none => rfl
    | some n => exact (hm (hnw2 m n hq).1).elim
  have hβle : β.le β3 := by
    intro m b hm
    obtain ⟨cs, hcs⟩ := h.dom m b hm
    rw [hβ3old m (hnmNot m cs hcs)]; exact hm
  -- the callee's names of what was handed over
  have hβ2 : ∀ n m, findN (flipN ρ) n = some m → β2 n = β m := by
    intro n m hn
    rw [hS.names n (hφρ m n (hρφ m n hn)).2]
    simp only [BC, hn, Option.bind_some]
  have hmap : ∀ n m b, findN (flipN ρ ++ nw) n = some m → β2 n = some b → β3 m = some b := by
    intro n m b hn hb2
    rcases (hnw1 n m).1 hn with h1 | ⟨h1, rfl, h3⟩
    · obtain ⟨cs, hcs⟩ := hpres n m h1
      rw [hβ3old m (hnmNot m cs hcs), ← hβ2 n m h1]; exact hb2
    · show (match nwAt m with | some n => β2 n | none => β m) = some b
      rw [h3]; exact hb2
  have hβ3inv : ∀ m b, β3 m = some b → (m ≠ nm ∧ β m = some b) ∨ ∃ n, m = nm ∧ nwAt nm = some n ∧ findN (flipN ρ) n = none ∧ β2 n = some b := by
    intro m b hm
    by_cases e : m = nm
    · subst e
      have hm : (match nwAt m with | some n => β2 n | none => β m) = some b := hm
      cases hq : nwAt m with
      | none => rw [hq] at hm; rw [hβnm] at hm; cases hm
      | some n => rw [hq] at hm; exact .inr ⟨n, rfl, rfl, (hnw2 m n hq).2, hm⟩
    · rw [hβ3old m e] at hm; exact .inl ⟨e, hm⟩
  -- a new block is not foreign to the callee; one of a box that was not handed over is
  have hXof : ∀ m b, findN ρ m = none → β m = some b → XC X β a w ρ (keepOB ρ (keepT po s.own ops)) b := fun m b h1 h2 => .inr (.inl ⟨m, h1, h2⟩)
  have hXs : ∀ b, X b → XC X β a w ρ (keepOB ρ (keepT po s.own ops)) b := fun b hb => .inl hb
  have hnotX2 : ∀ n b, β2 n = some b → ¬ XC X β a w ρ (keepOB ρ (keepT po s.own ops)) b := by
    intro n b hn
    obtain ⟨cs, hcs⟩ := hR.dom n b hn
    obtain ⟨b', _, _, _, hb', _, _, _, hxx, _⟩ := hR.box n cs hcs
    rw [hn] at hb'; cases hb'; exact hxx
  have hin : ∀ n m b, findN (flipN ρ) n = some m → β m = some b → lookB n s2.bx ≠ none := by
    intro n m b hn hm
    obtain ⟨cs, hcs⟩ := hR.dom n b (by rw [hβ2 n m hn]; exact hm)
    rw [hcs]; simp
  have keepLoc : ∀ l c v, (l, c) ∈ keepOB ρ (keepT po s.own ops) → locVal β a w l = some v → locVal β3 a w2 l = some v := by
    intro l c v hl hv
    cases l with
    | t i => exact hv
    | b m o =>
      simp only [locVal] at hv ⊢
      cases hbm : β m with
      | none => rw [hbm] at hv; cases hv
      | some b =>
        rw [hbm] at hv
        rw [hβle m b hbm]
        simp only [Option.bind_some] at hv ⊢
        rw [← hv]
        exact cell_of_heap (hS.xs b (hXof m b ((mem_keepOB hl).2 m o rfl) hbm)).1 o
  have keepOwn : ∀ l c v, (l, c) ∈ keepOB ρ (keepT po s.own ops) → locVal β a w l = some v → OwnV X σ2 β3 w2 c v := by
    intro l c v hl hv b off len cap e hlt
    obtain ⟨v', hv', hov⟩ := h.own l c (mem_keepT (mem_keepOB hl).1).1
    rw [hv] at hv'; cases hv'
    obtain ⟨⟨arr, T, fz, k0, k00, k01⟩, k2, k3, k4⟩ := hov b off len cap e hlt
    have hbX : XC X β a w ρ (keepOB ρ (keepT po s.own ops)) b := .inr (.inr ⟨l, c, v, hl, hv, by simp [e, ownB, hlt]⟩)
    obtain ⟨x1, x2⟩ := hS.xs b hbX
    obtain ⟨fz', x3, x4⟩ : ∃ fz', w2.heap[b]? = some (.cells arr T fz') ∧ Unf arr.size fz' := ⟨fz, x1.trans k0, k01⟩
    refine ⟨⟨arr, T, fz', x3, k00, x4⟩, fun o ho => (x2 o).trans (k2 o ho), k3, ?_⟩
    intro n hn
    rcases hβ3inv n b hn with ⟨_, h1⟩ | ⟨n', _, _, _, h2⟩
    · exact k4 n h1
    · exact hnotX2 n' b h2 hbX
  refine ⟨β3, ?_, ?_, hmap, ?_, ?_⟩
  · refine ⟨h.size, h.defs, fun i => (h.tmp i).mono hS.le hβle, hR.st, fun b hb => hR.xs b (hXs b hb), ?_, ?_, ?_, ?_, ?_⟩
    · intro m ds hm
      rcases sp1 m ds hm with ⟨n, cs, q1, q2, q3⟩ | ⟨q1, q2⟩
      · obtain ⟨b, arr, T, fz, hb2, hh, hsz, hr, hxx, hσ, hf⟩ := hR.box n cs q2
        obtain ⟨s1, s2'⟩ := renL_spec _ cs ds q3
        refine ⟨b, arr, T, fz, hmap n m b q1 hb2, hh, by omega, ?_, fun hx => hxx (hXs b hx), hσ, hf⟩
        intro j y hy
        obtain ⟨x, hx, hrr⟩ := s2' j y hy
        exact ren_ok hmap (hr j x hx) hrr
      · obtain ⟨b, arr, T, fz, hb2, hh, hsz, hr, hxx, hσ, hf⟩ := h.box m ds q2
        have hm0 : findN ρ m = none := by
          cases hq : findN ρ m with
          | none => rfl
          | some n =>
            have h1 := (hφρ m n hq).1
            have := q1 n ((hnw1 n m).2 (.inl h1))
            exact (hin n m b h1 hb2 this).elim
        obtain ⟨x1, x2⟩ := hS.xs b (hXof m b hm0 hb2)
        obtain ⟨fz', x3, x4⟩ : ∃ fz', w2.heap[b]? = some (.cells arr T fz') ∧ Unf arr.size fz' := ⟨fz, x1.trans hh, hf⟩
        exact ⟨b, arr, T, fz', hβle m b hb2, x3, hsz, fun j x hx => (hr j x hx).mono hS.le hβle, hxx, fun o => (x2 o).trans (hσ o), x4⟩
    · intro m b hm
      have : lookB m bx' ≠ none := by
        rcases hβ3inv m b hm with ⟨_, h1⟩ | ⟨n, e, hn, hf, h2⟩
        · obtain ⟨cs, hcs⟩ := h.dom m b h1
          exact sp3 m (by rw [hcs]; simp)
        · obtain ⟨cs, hcs⟩ := hR.dom n b h2
          exact sp2 m n ((hnw1 n m).2 (.inr ⟨hf, e, hn⟩)) (by rw [hcs]; simp)
      cases hq : lookB m bx' with
      | none => exact (this hq).elim
      | some cs => exact ⟨cs, rfl⟩
    · have old_new : ∀ m b, m ≠ nm → β m = some b → ∀ n, findN (flipN ρ) n = none → β2 n = some b → False := by
        intro m b hm hb2 n hf h2
        cases hq : findN ρ m with
        | none => exact hnotX2 n b h2 (hXof m b hq hb2)
        | some n' =>
          have h1 := (hφρ m n' hq).1
          have := hR.inj n' n b (by rw [hβ2 n' m h1]; exact hb2) h2
          subst this
          rw [h1] at hf; cases hf
      intro m1 m2 b h1 h2
      rcases hβ3inv m1 b h1 with ⟨e1, q1⟩ | ⟨n1, e1, r1, f1, q1⟩ <;> rcases hβ3inv m2 b h2 with ⟨e2, q2⟩ | ⟨n2, e2, r2, f2, q2⟩
      · exact h.inj m1 m2 b q1 q2
      · exact (old_new m1 b e1 q1 n2 f2 q2).elim
      · exact (old_new m2 b e2 q2 n1 f1 q1).elim
      · rw [e1, e2]
    · intro l c hl
      obtain ⟨v, hv, _⟩ := h.own l c (mem_keepT (mem_keepOB hl).1).1
      exact ⟨v, keepLoc l c v hl hv, keepOwn l c v hl hv⟩
    · intro l c l' c' hl hl' hne v v' b hv hv' hb2
      obtain ⟨u, hu, _⟩ := h.own l c (mem_keepT (mem_keepOB hl).1).1
      obtain ⟨u', hu', _⟩ := h.own l' c' (mem_keepT (mem_keepOB hl').1).1
      have e1 := keepLoc l c u hl hu
      have e2 := keepLoc l' c' u' hl' hu'
      rw [hv] at e1; cases e1
      rw [hv'] at e2; cases e2
      exact h.sep l c l' c' (mem_keepT (mem_keepOB hl).1).1 (mem_keepT (mem_keepOB hl').1).1 hne v v' b hu hu' hb2
  · refine ⟨hS.le, fun b hb => hS.xs b (hXs b hb), hS.size, hS.os, hS.tape, hS.output, ?_⟩
    intro n hn
    exact hβ3old n (by omega)
  · intro c v b hov hb2
    refine ⟨?_, ?_⟩
    · intro b' off len cap e hlt
      obtain ⟨k1, k2, k3, k4⟩ := hov b' off len cap e hlt
      refine ⟨k1, k2, fun hx => k3 (hXs b' hx), ?_⟩
      intro n hn
      rcases hβ3inv n b' hn with ⟨_, h1⟩ | ⟨n', _, _, _, h2⟩
      · cases hq : findN ρ n with
        | none => exact k3 (hXof n b' hq h1)
        | some n' => exact k4 n' (by rw [hβ2 n' n (hφρ n n' hq).1]; exact h1)
      · exact k4 n' h2
    · intro l c' v' hl hv' hb'
      obtain ⟨u, hu, _⟩ := h.own l c' (mem_keepT (mem_keepOB hl).1).1
      have e1 := keepLoc l c' u hl hu
      rw [hv'] at e1; cases e1
      have hbX : XC X β a w ρ (keepOB ρ (keepT po s.own ops)) b := .inr (.inr ⟨l, c', v', hl, hu, hb'⟩)
      unfold ownB at hb2
      split at hb2
      · rename_i b2 off len cap
        split at hb2
        · rename_i hlt
          cases hb2
          exact (hov b off len cap rfl hlt).2.2.1 hbX
        · cases hb2
      · cases hb2
  · intro c v hov hb2 b off len cap e hlt
    subst e
    simp [ownB, hlt] at hb2

end
end Go.Vx

/- Soundness of a call, as an operation. -/
namespace Go.Vx
set_option linter.unusedVariables false
set_option linter.unusedSimpArgs false
open Go

section
variable {P : Program} {o : Oper} {X : Ctx} {σ : Store} {β : Names} {s : St} {a : Act} {w : World} {K : St → Prop}

theorem Rel.addMany {L : List (Loc × Nat)} : ∀ {s : St} (_ : Rel X σ β s a w) (_ : ∀ l c, (l, c) ∈ L → ∃ v, locVal β a w l = some v ∧ OwnV X σ β w c v)
    (_ : ∀ l c l' c', (l, c) ∈ L → (l', c') ∈ L → l ≠ l' → ∀ v v' b, locVal β a w l = some v → locVal β a w l' = some v' → ownB v = some b → ownB v' ≠ some b)
    (_ : ∀ l c l' c', (l, c) ∈ L → (l', c') ∈ s.own → l ≠ l' → ∀ v v' b, locVal β a w l = some v → locVal β a w l' = some v' → ownB v = some b → ownB v' ≠ some b), Rel X σ β { s with own := L ++ s.own } a w := by
  induction L with
  | nil => intro s h _ _ _; exact h
  | cons p r ih =>
    intro s h h1 h2 h3
    obtain ⟨l, c⟩ := p
    have hr := ih (s := s) h (fun l c hm => h1 l c (.tail _ hm)) (fun l c l' c' hm hm' => h2 l c l' c' (.tail _ hm) (.tail _ hm')) (fun l c l' c' hm hm' => h3 l c l' c' (.tail _ hm) hm')
    obtain ⟨v, hv, ho⟩ := h1 l c (.head _)
    refine Rel.addOwn (s := { s with own := r ++ s.own }) hr hv ho ?_
    intro l' c' v' b hl' hne hv' hb e
    rcases List.mem_append.1 hl' with hl' | hl'
    · exact h2 l c l' c' (.head _) (.tail _ hl') (fun e => hne e.symm) v v' b hv hv' e hb
    · exact h3 l c l' c' (.head _) hl' (fun e => hne e.symm) v v' b hv hv' e hb

/-- Behind a panic, whatever is known of the state then. -/
def PnC (X : Ctx) (s : St) (σ : Store) (β : Names) (w : World) (KP : D → St → Prop) : Exit → Act → World → Prop := fun e a' w' =>
  ∃ x v s' σ' β', e = .panic [{ v, recovered := false }] ∧ Reads σ' x v ∧ KP x s' ∧ s'.n = s.n ∧ s'.k = s.k ∧ Rel X σ' β' s' a' w' ∧ Step X s.k σ β w σ' β' w'

theorem call_ok (h : Rel X σ β s a w) {f : FuncId} {args : List A} {ops : List Opd} {po : Option Nat} {d : Option Nat} {KP : D → St → Prop} {vals : Array Value} (hd : ∀ i, d = some i → i < s.n)
    (hlen : vals.size = args.length) (hvals : ∀ i x, args[i]? = some x → RA σ β x (vals.getD i undef)) (hops : ∀ (i j : Nat), ops[i]? = some (Opd.t j) → vals.getD i undef = a.tmps.getD j undef)
    (hv : vcCall P f args ops po d s K KP) : Calls P f vals w (fun e w' => match e with
      | .returned v => Nx X s.n s.k σ β w K (a.put d v) w'
      | .panicked ch => PnC X s σ β w KP (.panic ch) a w'
      | .outgrown => False) := by
  obtain ⟨hk, hv⟩ := hv
  split at hv
  · rename_i args' bx' hok hargs hpass
    have hin := call_in h (mkRen [] 0 args) (fun m n h => (okRen_1 _ hok m n h).1) (okRen_2 _ hok) hargs hpass hlen hvals hops (po := po)
    refine (hv _ _ _ _ _ hin).mono ?_
    rintro e w2 ⟨out, σ2, β2, hb, hout, hS⟩
    have hpres : ∀ n m, findN (flipN (mkRen [] 0 args)) n = some m → ∃ cs, lookB m s.bx = some cs := fun n m hn => ((passB_spec _ _ hpass).2 n m hn).2
    cases out with
    | pan x bx =>
      obtain ⟨v, rfl, hrd, hR⟩ := hout
      simp only [vcBack] at hb
      split at hb
      · rename_i bx3 hbx3
        -- no new name: whatever fresh number serves
        obtain ⟨nm, hnm, hfr⟩ : ∃ nm, s.k ≤ nm ∧ lookB nm s.bx = none := by
          have : ∀ (l : List (Nat × List A)), ∃ N, ∀ m, N ≤ m → lookB m l = none := by
            intro l
            induction l with
            | nil => exact ⟨0, fun _ _ => rfl⟩
            | cons p l ih =>
              obtain ⟨N, hN⟩ := ih
              obtain ⟨q, cs⟩ := p
              refine ⟨max N (q + 1), fun m hm => ?_⟩
              rw [lookB_cons, if_neg (by omega)]
              exact hN m (by omega)
          obtain ⟨N, hN⟩ := this s.bx
          exact ⟨max N s.k, by omega, hN _ (by omega)⟩
        obtain ⟨β3, hR3, hS3, _⟩ := call_back h (po := po) (ops := ops) (mkRen [] 0 args) hok hpres (nw := []) hnm (.inl rfl) hfr hS hR (by rw [List.append_nil]; exact hbx3)
        refine ⟨x, v, _, σ2, β3, rfl, hrd, hb, rfl, rfl, ?_, hS3⟩
        exact hR3.sub rfl rfl (fun _ => .inr rfl) (fun p hp => by cases hp)
      · exact hb.elim
    | ret res bx own =>
      obtain ⟨vs, rfl, hR⟩ := hout
      simp only [vcBack] at hb
      obtain ⟨hfr, hb⟩ := hb
      split at hb
      · rename_i bx3 res' hbx3 hres
        have hnm : s.k ≤ s.k + d.getD 0 := Nat.le_add_right _ _
        obtain ⟨β3, hR3, hS3, hmap, hown1, hown2⟩ := call_back h (po := po) (ops := ops) (mkRen [] 0 args) hok hpres hnm (newName_spec _ _ bx) hfr hS hR hbx3
        obtain ⟨r1, r2⟩ := renL_spec _ res res' hres
        have hvsz : vs.size = res.length := hR.size
        have hvs : ∀ i y, res'[i]? = some y → RA σ2 β3 y (vs.getD i undef) := by
          intro i y hy
          obtain ⟨x, hx, hr⟩ := r2 i y hy
          have := hR.tmp i
          simp only [St.io, look_enumA] at this
          rw [if_pos (Nat.zero_le _), Nat.sub_zero, List.getD_eq_getElem?_getD, hx] at this
          exact ren_ok hmap this hr
        have hresA : RA σ2 β3 (resA res') (pack vs) := by
          unfold resA
          split
          · rename_i x
            have hone : vs.size = 1 := by rw [hvsz, ← r1]; rfl
            have := hvs 0 x rfl
            have hp : pack vs = vs.getD 0 undef := by
              unfold pack
              rw [dif_pos hone, Array.getD_eq_getD_getElem?, Array.getElem?_eq_getElem (by omega)]
              rfl
            rw [hp]; exact this
          · rename_i hne
            have hnot : ¬ vs.size = 1 := by
              intro e
              rw [hvsz, ← r1] at e
              obtain ⟨x, hx⟩ := List.length_eq_one_iff.1 e
              exact hne x hx
            have hp : pack vs = .tuple vs := by unfold pack; rw [dif_neg hnot]
            rw [hp]
            exact .tup res' vs (by omega) hvs
        have hput : Rel X σ2 β3 { s with t := setT d (resA res') s.t, bx := bx3, own := keepD d (keepOB (mkRen [] 0 args) (keepT po s.own ops)) } (a.put d (pack vs)) w2 := by
          cases d with
          | none => exact hR3
          | some d => exact hR3.put (hd d rfl) hresA
        refine ⟨_, σ2, β3, hb, rfl, rfl, ?_, hS3⟩
        -- where what is owned behind the call comes from
        have from_ : ∀ l c, (l, c) ∈ backO (flipN (mkRen [] 0 args) ++ newName (flipN (mkRen [] 0 args)) (s.k + d.getD 0) bx) d (isOne res') own → ∃ l2 v, (l2, c) ∈ own ∧ locVal β2 ⟨vs, []⟩ w2 l2 = some v ∧ locVal β3 (a.put d (pack vs)) w2 l = some v ∧
            OwnV (XC X β a w (mkRen [] 0 args) (keepOB (mkRen [] 0 args) (keepT po s.own ops))) σ2 β2 w2 c v ∧
            ((∃ d0, d = some d0 ∧ l = .t d0 ∧ l2 = .t 0) ∨ ∃ m n o, l = .b m o ∧ l2 = .b n o ∧ findN (flipN (mkRen [] 0 args) ++ newName (flipN (mkRen [] 0 args)) (s.k + d.getD 0) bx) n = some m) := by
          intro l c hl
          rcases mem_backO hl with ⟨d0, rfl, hone, rfl, hm⟩ | ⟨m, n, o', rfl, hm, hn⟩
          · obtain ⟨v, hv, hov⟩ := hR.own _ _ hm
            refine ⟨.t 0, v, hm, hv, ?_, hov, .inl ⟨d0, rfl, rfl, rfl⟩⟩
            simp only [locVal, Option.some.injEq] at hv ⊢
            have hd' : d0 < a.tmps.size := h.size ▸ hd d0 rfl
            simp only [Act.put]
            rw [getD_set _ _ _ _ hd', if_pos rfl, ← hv]
            have h1 : res'.length = 1 := by
              unfold isOne at hone
              split at hone
              · rfl
              · cases hone
            have hone' : vs.size = 1 := by omega
            unfold pack
            rw [dif_pos hone', Array.getD_eq_getD_getElem?, Array.getElem?_eq_getElem (by omega)]
            rfl
          · obtain ⟨v, hv, hov⟩ := hR.own _ _ hm
            refine ⟨.b n o', v, hm, hv, ?_, hov, .inr ⟨m, n, o', rfl, rfl, hn⟩⟩
            simp only [locVal] at hv ⊢
            cases hb2 : β2 n with
            | none => rw [hb2] at hv; cases hv
            | some b => rw [hb2] at hv; rw [hmap n m b hn hb2]; exact hv
        refine Rel.addMany (s := { s with t := setT d (resA res') s.t, bx := bx3, own := keepD d (keepOB (mkRen [] 0 args) (keepT po s.own ops)) }) hput ?_ ?_ ?_
        · intro l c hl
          obtain ⟨l2, v, q1, q2, q3, q4, _⟩ := from_ l c hl
          refine ⟨v, q3, ?_⟩
          cases hb2 : ownB v with
          | none => exact hown2 c v q4 hb2
          | some b => exact (hown1 c v b q4 hb2).1
        · intro l c l' c' hl hl' hne v v' b hv hv' hb2
          obtain ⟨l2, u, q1, q2, q3, q4, q5⟩ := from_ l c hl
          obtain ⟨l2', u', q1', q2', q3', q4', q5'⟩ := from_ l' c' hl'
          rw [hv] at q3; cases q3
          rw [hv'] at q3'; cases q3'
          refine hR.sep l2 c l2' c' q1 q1' ?_ v v' b q2 q2' hb2
          rcases q5 with ⟨d0, e1, rfl, rfl⟩ | ⟨m, n, o', rfl, rfl, hn⟩ <;> rcases q5' with ⟨d0', e1', rfl, rfl⟩ | ⟨m', n', o'', rfl, rfl, hn'⟩
          · rw [e1] at e1'; cases e1'; exact (hne rfl).elim
          · simp
          · simp
          · intro e
            injection e with e2 e3
            subst e2; subst e3
            rw [hn] at hn'; cases hn'
            exact hne rfl
        · intro l c l' c' hl hl' hne v v' b hv hv' hb2
          obtain ⟨l2, u, q1, q2, q3, q4, q5⟩ := from_ l c hl
          rw [hv] at q3; cases q3
          obtain ⟨k1, k2⟩ := mem_keepD hl'
          refine (hown1 c v b q4 hb2).2 l' c' v' k1 ?_
          cases l' with
          | b m o' => exact hv'
          | t i =>
            simp only [locVal] at hv' ⊢
            cases d with
            | none => exact hv'
            | some d =>
              have hd' : d < a.tmps.size := h.size ▸ hd d rfl
              simp only [Act.put] at hv'
              rw [getD_set _ _ _ _ hd', if_neg (fun e => k2 d rfl (by rw [e]))] at hv'
              exact hv'
      · exact hb.elim
  · exact hv.elim

end
end Go.Vx

/- Every compiled operation is sound. -/
namespace Go.Vx
set_option linter.unusedVariables false
set_option linter.unusedSimpArgs false
open Go

theorem two_of {α : Type} {xs : Array α} {x y : α} (hn : xs.size = 2) (h0 : xs[0]? = some x) (h1 : xs[1]? = some y) : xs = #[x, y] := by
  obtain ⟨l⟩ := xs
  match l, hn with
  | [p, q], _ =>
    simp at h0 h1
    subst h0; subst h1; rfl

theorem bind_some {α β : Type} {x : Option α} {f : α → Option β} {y : β} (h : (x >>= f) = some y) : ∃ z, x = some z ∧ f z = some y := by
  cases x with
  | none => cases h
  | some z => exact ⟨z, rfl, h⟩

section
variable {P : Program} {o : Oper} {X : Ctx} {σ : Store} {β : Names} {s : St} {a : Act} {w : World} {K : St → Prop} {KP : D → Prop}

theorem op_sound {ows : List (FuncId × Nat)} {later : List Oper} {ao : AOp} (hc : compOp P ows later o = some ao) (h : Rel X σ β s a w) (hd : ∀ i, o.dst = some i → i < s.n)
    (hv : vcOp ao o.dst s K KP) (hst : ∀ t x v, o.op = .store t x v → o.dst = none) : o.wp P a w (Nx X s.n s.k σ β w K) (Pn X s σ β w KP) := by
  unfold compOp at hc
  simp only at hc
  split at hc
  · -- move
    rename_i x ho
    split at hc
    · rename_i hn
      split at hc
      · rename_i e he
        cases hs : tySize P e with
        | none => rw [hs] at hc; cases hc
        | some c =>
          rw [hs] at hc
          cases hc
          exact s_nil h hd (.inl ho) hn hv
      · cases hc
    · cases hx : cOpd x with
      | none => rw [hx] at hc; cases hc
      | some y => rw [hx] at hc; cases hc; exact s_mv h hd (.inl ho) hx hv
  · rename_i x ho
    split at hc
    · rename_i hn
      split at hc
      · rename_i e he
        cases hs : tySize P e with
        | none => rw [hs] at hc; cases hc
        | some c =>
          rw [hs] at hc
          cases hc
          exact s_nil h hd (.inr ho) hn hv
      · cases hc
    · cases hx : cOpd x with
      | none => rw [hx] at hc; cases hc
      | some y => rw [hx] at hc; cases hc; exact s_mv h hd (.inr ho) hx hv
  · rename_i c x y ho
    obtain ⟨c', hc', hcN⟩ := bind_some hc
    clear hc
    have hc := hcN; clear hcN
    obtain ⟨x', hx, hcN⟩ := bind_some hc
    clear hc
    have hc := hcN; clear hcN
    obtain ⟨y', hy, hcN⟩ := bind_some hc
    clear hc
    have hc := hcN; clear hcN
    cases hc
    exact s_pick h hd ho hc' hx hy hv
  · rename_i t ho
    obtain ⟨l, hl, hcN⟩ := bind_some hc
    clear hc
    have hc := hcN; clear hcN
    cases hc
    exact s_alloc h hd ho hl hv
  · rename_i t x ho
    obtain ⟨c, hs, hcN⟩ := bind_some hc
    clear hc
    have hc := hcN; clear hcN
    obtain ⟨x', hx, hcN⟩ := bind_some hc
    clear hc
    have hc := hcN; clear hcN
    cases hc
    exact s_box h hd ho hx hv
  · rename_i t parts ho
    obtain ⟨l, hl, hcN⟩ := bind_some hc
    clear hc
    have hc := hcN; clear hcN
    split at hc
    · rename_i fs hu
      obtain ⟨places, hp, hcN⟩ := bind_some hc
      clear hc
      have hc := hcN; clear hcN
      obtain ⟨ps, hps, hcN⟩ := bind_some hc
      clear hc
      have hc := hcN; clear hcN
      cases hc
      exact s_build h hd ho hl (.inl ⟨fs, places, hu, hp, hps⟩) hv
    · rename_i n e hu
      obtain ⟨c, hs, hcN⟩ := bind_some hc
      clear hc
      have hc := hcN; clear hcN
      obtain ⟨ps, hps, hcN⟩ := bind_some hc
      clear hc
      have hc := hcN; clear hcN
      cases hc
      exact s_build h hd ho hl (.inr ⟨n, e, c, hu, hs, hps⟩) hv
    · cases hc
  · rename_i t n parts ho
    obtain ⟨du, hu, hcN⟩ := bind_some hc
    clear hc
    have hc := hcN; clear hcN
    split at hc
    · rename_i e
      obtain ⟨c, hs, hcN⟩ := bind_some hc
      clear hc
      have hc := hcN; clear hcN
      split at hc
      · cases hc
      · rename_i hcond
        obtain ⟨l, hl, hcN⟩ := bind_some hc
        clear hc
        have hc := hcN; clear hcN
        split at hc
        · cases hc
        · rename_i hlc
          obtain ⟨ps, hps, hcN⟩ := bind_some hc
          clear hc
          have hc := hcN; clear hcN
          by_cases hn0 : n = 0
          · rw [if_pos hn0] at hc
            subst hn0
            split at hc
            · rename_i hpl
              cases hc
              exact s_bslc0 h hd ho hu hs hpl hv
            · cases hc
          · rw [if_neg hn0] at hc
            cases hc
            have hlc' : l.length = c := Classical.not_not.1 hlc
            split at hv
            · exact s_bslf h hd ho hu hs (fun e => hcond (.inl e)) hn0 (fun e => hcond (.inr (.inl e))) (by omega) hl hlc' hps hv
            · exact s_bslc h hd ho hu hs (fun e => hcond (.inl e)) hn0 (fun e => hcond (.inr (.inl e))) (by omega) hl hlc' hps hv
    · cases hc
  · rename_i t x ho
    obtain ⟨ag, ha, hcN⟩ := bind_some hc
    clear hc
    have hc := hcN; clear hcN
    obtain ⟨c, hs, hcN⟩ := bind_some hc
    clear hc
    have hc := hcN; clear hcN
    obtain ⟨x', hx, hcN⟩ := bind_some hc
    clear hc
    have hc := hcN; clear hcN
    cases hc
    exact s_load h hd ho hx ha hs hv
  · rename_i t x v ho
    obtain ⟨c, hs, hcN⟩ := bind_some hc
    clear hc
    have hc := hcN; clear hcN
    obtain ⟨x', hx, hcN⟩ := bind_some hc
    clear hc
    have hc := hcN; clear hcN
    obtain ⟨v', hvv, hcN⟩ := bind_some hc
    clear hc
    have hc := hcN; clear hcN
    cases hc
    exact s_store h (hst _ _ _ ho) ho hx hvv hs hv
  · rename_i x ho
    obtain ⟨x', hx, hcN⟩ := bind_some hc
    clear hc
    have hc := hcN; clear hcN
    cases hc
    exact s_nilck h hd ho hx hv
  · rename_i op t x y t' ho
    obtain ⟨x', hx, hcN⟩ := bind_some hc
    clear hc
    have hc := hcN; clear hcN
    obtain ⟨y', hy, hcN⟩ := bind_some hc
    clear hc
    have hc := hcN; clear hcN
    split at hc
    · obtain ⟨ks, hk, hcN⟩ := bind_some hc
      clear hc
      have hc := hcN; clear hcN
      split at hc
      · rename_i hg
        cases hc
        exact s_eqs (neg := false) h hd ho hx hy hk hg (by simp [tyAgg, isAggD, *]) hv
      · cases hc
    · obtain ⟨ks, hk, hcN⟩ := bind_some hc
      clear hc
      have hc := hcN; clear hcN
      split at hc
      · rename_i hg
        cases hc
        exact s_eqs (neg := false) h hd ho hx hy hk hg (by simp [tyAgg, isAggD, *]) hv
      · cases hc
    · obtain ⟨ks, hk, hcN⟩ := bind_some hc
      clear hc
      have hc := hcN; clear hcN
      split at hc
      · rename_i hg
        cases hc
        exact s_eqs (neg := true) h hd ho hx hy hk hg (by simp [tyAgg, isAggD, *]) hv
      · cases hc
    · obtain ⟨ks, hk, hcN⟩ := bind_some hc
      clear hc
      have hc := hcN; clear hcN
      split at hc
      · rename_i hg
        cases hc
        exact s_eqs (neg := true) h hd ho hx hy hk hg (by simp [tyAgg, isAggD, *]) hv
      · cases hc
    · cases hc; exact s_bin h hd ho hx hy hv
    · cases hc; exact s_bin h hd ho hx hy hv
    · cases hc; exact s_binB (neg := false) h hd ho hx hy (by assumption) hv
    · cases hc; exact s_binB (neg := true) h hd ho hx hy (by assumption) hv
    · obtain ⟨kd, hk, hq⟩ := Option.map_eq_some_iff.1 hc; cases hq; exact s_isnil (neg := false) h hd ho hx (by assumption) hk hv
    · obtain ⟨kd, hk, hq⟩ := Option.map_eq_some_iff.1 hc; cases hq; exact s_isnil (neg := true) h hd ho hx (by assumption) hk hv
    · cases hc
  · rename_i op t x ho
    obtain ⟨x', hx, hcN⟩ := bind_some hc
    clear hc
    have hc := hcN; clear hcN
    cases hc
    exact s_un h hd ho hx hv
  · rename_i src dst x ho
    obtain ⟨x', hx, hcN⟩ := bind_some hc
    clear hc
    have hc := hcN; clear hcN
    split at hc
    · rename_i h1 h2; cases hc; exact s_cvi h hd ho hx h1 h2 hv
    · rename_i h1 h2; cases hc; exact s_idn h hd ho hx h1 h2 hv
    · rename_i e h1 h2
      split at hc
      · rename_i he
        cases hc
        exact s_cvb h hd ho hx h1 h2 (by cases hq : P.underlying e <;> simp_all) hv
      · cases hc
    · rename_i e h1 h2
      split at hc
      · rename_i he
        cases hc
        exact s_cvs h hd ho hx h1 (by cases hq : P.underlying e <;> simp_all) h2 hv
      · cases hc
    · rename_i e e2 h1 h2
      split at hc
      · rename_i he
        by_cases he2 : src = dst
        · rw [if_pos he2] at hc
          cases hc
          subst he2
          exact s_cvl h hd ho hx h1 (by cases hq : P.underlying e <;> simp_all) hv
        · rw [if_neg he2] at hc
          cases hc
      · cases hc
    · cases hc
  · rename_i t x i ho
    obtain ⟨du, hu, hcN⟩ := bind_some hc
    clear hc
    have hc := hcN; clear hcN
    split at hc
    · rename_i fs
      obtain ⟨f, hf, hcN⟩ := bind_some hc
      clear hc
      obtain ⟨c, hs, hcM⟩ := bind_some hcN
      clear hcN
      split at hcM
      · cases hcM
      · rename_i hc0
        obtain ⟨x', hx, hc⟩ := bind_some hcM
        cases hc
        exact s_fa h hd ho hx hu hf hs hc0 hv
    · cases hc
  · rename_i t x i ho
    obtain ⟨du, hu, hcN⟩ := bind_some hc
    clear hc
    have hc := hcN; clear hcN
    split at hc
    · rename_i fs
      obtain ⟨f, hf, hcN⟩ := bind_some hc
      clear hc
      obtain ⟨ag, ha, hcM⟩ := bind_some hcN
      clear hcN
      obtain ⟨c, hs, hcN⟩ := bind_some hcM
      clear hcM
      obtain ⟨x', hx, hc⟩ := bind_some hcN
      cases hc
      exact s_fld h hd ho hx hu hf hs ha hv
    · cases hc
  · rename_i t x i ho
    obtain ⟨x', hx, hcN⟩ := bind_some hc
    clear hc
    obtain ⟨i', hi, hc⟩ := bind_some hcN
    clear hcN
    split at hc
    · obtain ⟨c, hs, hc2⟩ := bind_some hc
      cases hc2
      exact s_ixa h hd ho hx hi (by assumption) hs hv
    · obtain ⟨c, hs, hc2⟩ := bind_some hc
      cases hc2
      exact s_ixs h hd ho hx hi (by assumption) hs hv
    · cases hc
  · rename_i t x i ho
    obtain ⟨x', hx, hcN⟩ := bind_some hc
    clear hc
    obtain ⟨i', hi, hc⟩ := bind_some hcN
    clear hcN
    split at hc
    · obtain ⟨ag, ha, hc2⟩ := bind_some hc
      obtain ⟨c, hs, hc3⟩ := bind_some hc2
      cases hc3
      exact s_ixv h hd ho hx hi (by assumption) hs ha hv
    · cases hc
      exact s_ixc h hd ho hx hi (by assumption) hv
    · cases hc
  · rename_i t x lo hi ho
    obtain ⟨x', hx, hcN⟩ := bind_some hc
    clear hc
    obtain ⟨lo', hlo, hcM⟩ := bind_some hcN
    clear hcN
    obtain ⟨hi', hhi, hc⟩ := bind_some hcM
    clear hcM
    split at hc
    · obtain ⟨c, hs, hc2⟩ := bind_some hc
      cases hc2
      exact s_sla h hd ho hx hlo hhi (by assumption) hs hv
    · obtain ⟨c, hs, hc2⟩ := bind_some hc
      cases hc2
      exact s_slc h hd ho hx hlo hhi (by assumption) hs hv
    · cases hc
      exact s_sls h hd ho hx hlo hhi (by assumption) hv
    · cases hc
  · rename_i t x lo hi mx ho
    obtain ⟨x', hx, hcN⟩ := bind_some hc
    clear hc
    obtain ⟨lo', hlo, hcM⟩ := bind_some hcN
    clear hcN
    obtain ⟨hi', hhi, hcN⟩ := bind_some hcM
    clear hcM
    obtain ⟨mx', hmx, hc⟩ := bind_some hcN
    clear hcN
    split at hc
    · obtain ⟨c, hs, hc2⟩ := bind_some hc
      cases hc2
      exact s_slc3 h hd ho hx hlo hhi hmx (by assumption) hs hv
    · cases hc
  · rename_i t x ho
    obtain ⟨du, hu, hcN⟩ := bind_some hc
    clear hc
    have hc := hcN; clear hcN
    split at hc
    · obtain ⟨c, hs, hcN⟩ := bind_some hc
      obtain ⟨x', hx, hc2⟩ := bind_some hcN
      cases hc2
      exact s_s2a h hd ho hx hu hv
    · cases hc
  · rename_i t x ho
    split at hc
    · cases hc
    · rename_i hni hu
      obtain ⟨x', hx, hq⟩ := Option.map_eq_some_iff.1 hc
      cases hq
      exact s_mkif h hd ho hx hu (fun m e => by subst e; exact hni m rfl) hv
    · cases hc
  · rename_i x u t ok ho
    split at hc
    · cases hc
    · rename_i hni hu
      obtain ⟨x', hx, hq⟩ := Option.map_eq_some_iff.1 hc
      cases hq
      exact s_tas h hd ho hx hu (fun m e => by subst e; exact hni m rfl) hv
    · cases hc
  · rename_i x ho
    obtain ⟨x', hx, hq⟩ := Option.map_eq_some_iff.1 hc
    cases hq
    exact s_panic h ho hx hv
  · rename_i x i ho
    obtain ⟨x', hx, hc2⟩ := bind_some hc
    cases hc2
    exact s_ext h hd ho hx hv
  · rename_i f first caps ho
    split at hc
    · rename_i hf
      obtain ⟨cs, hcs, hc2⟩ := bind_some hc
      cases hc2
      exact s_clo h hd ho hf hcs hv
    · cases hc
  · rename_i args ats ho
    obtain ⟨t, h0, hcN⟩ := bind_some hc
    clear hc
    obtain ⟨x, h1, hc⟩ := bind_some hcN
    clear hcN
    split at hc
    · obtain ⟨x', hx, hq⟩ := Option.map_eq_some_iff.1 hc
      cases hq
      exact s_lenS h hd ho h0 h1 hx (by assumption) hv
    · obtain ⟨x', hx, hq⟩ := Option.map_eq_some_iff.1 hc
      cases hq
      exact s_len h hd ho h0 h1 hx (by assumption) hv
    · cases hc
      exact s_lenA h hd ho h0 h1 (.inl (by assumption)) hv
    · split at hc
      · cases hc
        exact s_lenA h hd ho h0 h1 (.inr ⟨_, by assumption, by assumption⟩) hv
      · cases hc
    · cases hc
  · rename_i args ats ho
    split at hc
    · cases hc
    · rename_i hsz
      have hsz1 : args.size = 2 := Classical.not_not.1 (fun e => hsz (.inl e))
      have hsz2 : ats.size = 2 := Classical.not_not.1 (fun e => hsz (.inr e))
      obtain ⟨t, h0, hcN⟩ := bind_some hc
      clear hc
      obtain ⟨u, h1, hcM⟩ := bind_some hcN
      clear hcN
      obtain ⟨st, g0, hcN⟩ := bind_some hcM
      clear hcM
      obtain ⟨x, g1, hcM⟩ := bind_some hcN
      clear hcN
      obtain ⟨du, hu, hc⟩ := bind_some hcM
      clear hcM
      split at hc
      · rename_i e
        obtain ⟨c, hs, hcN⟩ := bind_some hc
        clear hc
        obtain ⟨ie, hie, hc⟩ := bind_some hcN
        clear hcN
        split at hc
        · cases hc
        · rename_i hcond
          obtain ⟨z, hz, hcN⟩ := bind_some hc
          clear hc
          split at hcN
          · cases hcN
          · rename_i hzl
            have hzl' : z.length = c := Classical.not_not.1 hzl
            have hcs : ie.size = c := by unfold tySize at hs; rw [hie] at hs; simpa using hs
            split at hcN
            · split at hcN
              · obtain ⟨st', hst', hc2⟩ := bind_some hcN
                obtain ⟨x', hx', hc3⟩ := bind_some hc2
                cases hc3
                exact s_app h hd ho (two_of hsz2 h0 h1) (two_of hsz1 g0 g1) hst' hx' hu hie hcs rfl (fun e => hcond (.inr e)) (fun e => hcond (.inl e)) hz hzl' ⟨_, by assumption, by simp⟩ hv
              · cases hcN
            · split at hcN
              · obtain ⟨st', hst', hc2⟩ := bind_some hcN
                obtain ⟨x', hx', hc3⟩ := bind_some hc2
                cases hc3
                exact s_app h hd ho (two_of hsz2 h0 h1) (two_of hsz1 g0 g1) hst' hx' hu hie hcs rfl (fun e => hcond (.inr e)) (fun e => hcond (.inl e)) hz hzl' ⟨_, by assumption, by simp⟩ hv
              · cases hcN
            · cases hcN
      · cases hc
  · rename_i args ats ho
    split at hc
    · cases hc
    · rename_i hsz
      have hsz1 : args.size = 2 := Classical.not_not.1 (fun e => hsz (.inl e))
      have hsz2 : ats.size = 2 := Classical.not_not.1 (fun e => hsz (.inr e))
      obtain ⟨t, h0, hcN⟩ := bind_some hc
      clear hc
      obtain ⟨u, h1, hcM⟩ := bind_some hcN
      clear hcN
      obtain ⟨st, g0, hcN⟩ := bind_some hcM
      clear hcM
      obtain ⟨x, g1, hcM⟩ := bind_some hcN
      clear hcN
      obtain ⟨du, hu, hc⟩ := bind_some hcM
      clear hcM
      split at hc
      · rename_i e
        obtain ⟨c, hs, hcN⟩ := bind_some hc
        clear hc
        split at hcN
        · cases hcN
        · rename_i hc0
          split at hcN
          · split at hcN
            · obtain ⟨st', hst', hc2⟩ := bind_some hcN
              obtain ⟨x', hx', hc3⟩ := bind_some hc2
              cases hc3
              exact s_cpy h hd ho (two_of hsz2 h0 h1) (two_of hsz1 g0 g1) hst' hx' hu hs hc0 hv
            · cases hcN
          · split at hcN
            · obtain ⟨st', hst', hc2⟩ := bind_some hcN
              obtain ⟨x', hx', hc3⟩ := bind_some hc2
              cases hc3
              exact s_cpy h hd ho (two_of hsz2 h0 h1) (two_of hsz1 g0 g1) hst' hx' hu hs hc0 hv
            · cases hcN
          · cases hcN
      · cases hc
  · cases hc

end
end Go.Vx

/- Conditions for one operation; soundness. -/
namespace Go.Vx
set_option linter.unusedVariables false
set_option linter.unusedSimpArgs false
open Go

/-- One operation of a region. -/
def vcOne (P : Program) (o : AO) (s : St) (K : St → Prop) (KP : D → St → Prop) : Prop :=
  match o.op with
  | .call f args po => vcCall P f (args.map s.ev) args po o.d s K KP
  | .callv fn args => match s.ev fn with
    | .clo f caps => (∃ fn, P.funcs[f]? = some fn ∧ fn.body.isSome = true ∧ fn.name ≠ "runtime.NumGoroutine") ∧ True ∧ vcCall P f (args.map s.ev ++ caps) args none o.d s K KP
    | _ => False
  | .op x => vcOp x o.d s K (fun y => KP y s)

def St.know (s : St) (j : Nat) (b : Bool) : St := { s with t := (j, .d (.bool b)) :: s.t }

theorem upon_mono {P : Program} {o : Oper} {a : Act} {w : World} {N1 N2 : Act → World → Prop} {Q1 Q2 : Exit → Act → World → Prop} (h : o.wp P a w N1 Q1) (hN : ∀ a w, N1 a w → N2 a w) (hQ : ∀ e a w, Q1 e a w → Q2 e a w) : o.wp P a w N2 Q2 := by
  unfold Oper.wp at *
  generalize (execOp a.eval o).run P w = r at *
  cases r with
  | ok n w' =>
    cases n with
    | value v => exact hN _ _ h
    | skip => exact hN _ _ h
    | defer d => exact hN _ _ h
    | enter f args =>
      refine Calls.mono h ?_
      intro e w2 he
      cases e with
      | returned v => exact hN _ _ he
      | panicked ch => exact hQ _ _ _ he
      | outgrown => obtain ⟨a0, w0, hq⟩ := he; exact ⟨a0, w0, hQ _ _ _ hq⟩
    | row row args => exact Rows.mono h (fun v w' hv => hN _ _ hv)
    | _ => exact h.elim
  | halt x w' =>
    cases x with
    | panic v => exact hQ _ _ _ h
    | _ => exact h.elim

section
variable {P : Program} {X : Ctx} {σ : Store} {β : Names} {s : St} {a : Act} {w : World}

theorem Rel.know (h : Rel X σ β s a w) {j : Nat} {b : Bool} (hb : look j s.t = .d (.bool b)) : Rel X σ β (s.know j b) a w := by
  refine h.sub rfl rfl (fun i => .inr ?_) (fun p hp => hp)
  show look i ((j, _) :: s.t) = _
  rw [look_cons]
  split
  · rename_i e; subst e; exact hb.symm
  · rfl

theorem evals_ok (h : Rel X σ β s a w) : ∀ (l : List Operand) (l' : List Opd), l.mapM cOpd = some l' → l'.length = l.length ∧ (∀ (i : Nat) (x : A), (l'.map s.ev)[i]? = some x → RA σ β x ((l.map a.eval).getD i undef)) ∧
    ∀ (i j : Nat), l'[i]? = some (Opd.t j) → (l.map a.eval).getD i undef = a.tmps.getD j undef := by
  intro l
  induction l with
  | nil => intro l' e; cases e; simp
  | cons y r ih =>
    intro l' e
    rw [List.mapM_cons] at e
    cases e1 : cOpd y with
    | none => rw [e1] at e; cases e
    | some y' =>
      cases e2 : r.mapM cOpd with
      | none => rw [e1, e2] at e; cases e
      | some r' =>
        rw [e1, e2] at e
        cases e
        obtain ⟨i1, i2, i3⟩ := ih r' e2
        refine ⟨by simp [i1], ?_, ?_⟩
        · intro i x hx
          cases i with
          | zero =>
            simp only [List.map_cons, List.getElem?_cons_zero, Option.some.injEq] at hx
            subst hx
            exact ev_ok h e1
          | succ i => exact i2 i x (by simpa using hx)
        · intro i j hj
          cases i with
          | zero =>
            simp only [List.getElem?_cons_zero, Option.some.injEq] at hj
            subst hj
            cases y with
            | tmp t => simp only [cOpd, Option.some.injEq, Opd.t.injEq] at e1; subst e1; rfl
            | const v => simp only [cOpd] at e1; cases hq : aOf v <;> rw [hq] at e1 <;> simp at e1
            | func f => simp [cOpd] at e1
            | global g => simp [cOpd] at e1
          | succ i => exact i3 i j (by simpa using hj)

theorem getD_map (args : Array Operand) (f : Operand → Value) (i : Nat) : (args.map f).getD i undef = (args.toList.map f).getD i undef := by
  rw [Array.getD_eq_getD_getElem?, List.getD_eq_getElem?_getD]
  simp

theorem one_sound {ows : List (FuncId × Nat)} {later : List Oper} {o : Oper} {ao : AI} {g : Option (Nat × Bool)} {K : St → Prop} {KP : D → St → Prop} (hc : compI P ows later o = some ao) (h : Rel X σ β s a w) (hd : ∀ i, o.dst = some i → i < s.n)
    (hst : ∀ t x v, o.op = .store t x v → o.dst = none) (hv : vcOne P ⟨o.dst, g, ao⟩ s K KP) : o.wp P a w (Nx X s.n s.k σ β w K) (PnC X s σ β w KP) := by
  unfold compI at hc
  split at hc
  · rename_i f ar ats ho
    split at hc
    · rename_i fn args hfn has
      split at hc
      · rename_i hcond
        cases hc
        simp only [vcOne] at hv
        obtain ⟨hbody, hname⟩ := hcond
        obtain ⟨e1, e2, e3⟩ := evals_ok h _ _ has
        have hrun : (execOp a.eval o).run P w = .ok (.enter f (ar.map a.eval)) w := by
          simp only [execOp, ho, resolve, Act.eval, Deferred.ofValue, Sem.run_bind, Sem.run_pure, Result.andThen_ok, invoke, callFunc, run_program, hfn]
          have : (fn.name == "runtime.NumGoroutine") = false := by simpa using hname
          have hb : fn.body.isNone = false := by cases hq : fn.body <;> simp_all
          simp [this, hb]
        unfold Oper.wp
        rw [hrun, Oper.upon_enter]
        refine (call_ok (ops := args) (po := ownArg ows f) (d := o.dst) (KP := KP) (vals := ar.map a.eval) h hd (by simp [e1]) (fun i x hx => by rw [getD_map]; exact e2 i x hx) (fun i j hj => by rw [getD_map]; exact e3 i j hj) hv).mono ?_
        intro e w' he
        cases e with
        | returned v => exact he
        | panicked ch => exact he
        | outgrown => exact he.elim
      · cases hc
    · cases hc
  · rename_i t ar ats ho
    cases has : ar.toList.mapM cOpd with
    | none => rw [has] at hc; cases hc
    | some args =>
      rw [has] at hc
      cases hc
      simp only [vcOne] at hv
      split at hv
      · rename_i f caps hf
        obtain ⟨e1, e2, e3⟩ := evals_ok h _ _ has
        have hft : look t s.t = .clo f caps := hf
        have h0 := h.tmp t
        rw [hft] at h0
        obtain ⟨vs, hval, hvn, hvr⟩ : ∃ vs : Array Value, a.tmps.getD t undef = .func (.func f) #[] vs ∧ caps.length = vs.size ∧ ∀ i x, caps[i]? = some x → RA σ β x (vs.getD i undef) := by
          generalize a.tmps.getD t undef = q at h0
          cases h0 with | clo _ _ vs hn hh => exact ⟨vs, rfl, hn, hh⟩
        have hel : (args.map s.ev).length = ar.size := by simp [e1]
        have hcv := call_ok (f := f) (K := K) (ops := args) (po := none) (d := o.dst) (KP := KP) (vals := ar.map a.eval ++ vs) h hd (by simp [e1, hvn]) (fun i x hx => by
            by_cases hi : i < (args.map s.ev).length
            · rw [List.getElem?_append_left hi] at hx
              have : (ar.map a.eval ++ vs).getD i undef = (ar.map a.eval).getD i undef := by
                rw [Array.getD_eq_getD_getElem?, Array.getD_eq_getD_getElem?, Array.getElem?_append_left (by simp; omega)]
              rw [this, getD_map]; exact e2 i x hx
            · rw [List.getElem?_append_right (by omega)] at hx
              have : (ar.map a.eval ++ vs).getD i undef = vs.getD (i - (args.map s.ev).length) undef := by
                rw [Array.getD_eq_getD_getElem?, Array.getD_eq_getD_getElem?, Array.getElem?_append_right (by simp; omega)]
                simp [e1]
              rw [this]; exact hvr _ x hx)
          (fun i j hj => by
            have hi := (List.getElem?_eq_some_iff.1 hj).1
            have : (ar.map a.eval ++ vs).getD i undef = (ar.map a.eval).getD i undef := by
              rw [Array.getD_eq_getD_getElem?, Array.getD_eq_getD_getElem?, Array.getElem?_append_left (by simp at hel ⊢; omega)]
            rw [this, getD_map]; exact e3 i j hj) hv.2.2
        obtain ⟨fn, hfn, hbody, hname⟩ : ∃ fn, P.funcs[f]? = some fn ∧ fn.body.isSome = true ∧ fn.name ≠ "runtime.NumGoroutine" := hv.1
        have hrun : (execOp a.eval o).run P w = .ok (.enter f (ar.map a.eval ++ vs)) w := by
          simp only [execOp, ho, resolve]
          have : a.eval (.tmp t) = .func (.func f) #[] vs := hval
          simp only [this, Deferred.ofValue, Sem.run_bind, Sem.run_pure, Result.andThen_ok, invoke, callFunc, run_program]
          have h1 : (fn.name == "runtime.NumGoroutine") = false := by simpa using hname
          have hb : fn.body.isNone = false := by cases hq : fn.body <;> simp_all
          simp [hfn, h1, hb]
        unfold Oper.wp
        rw [hrun, Oper.upon_enter]
        refine hcv.mono ?_
        intro e w' he
        cases e with
        | returned v => exact he
        | panicked ch => exact he
        | outgrown => exact he.elim
      · exact hv.elim
  · obtain ⟨x, hx, hq⟩ := Option.map_eq_some_iff.1 hc
    cases hq
    simp only [vcOne] at hv
    refine upon_mono (op_sound hx h hd hv hst) (fun _ _ h => h) ?_
    rintro e a' w' ⟨x, v, rfl, hr, hk, hR, hS⟩
    exact ⟨x, v, s, σ, β, rfl, hr, hk, rfl, rfl, hR, hS⟩

end
end Go.Vx

/- Regions that draw their order: one walk in the order of the text serves every order. -/
namespace Go.Vx
set_option linter.unusedVariables false
set_option linter.unusedSimpArgs false
open Go

def tmpsIn (f : Nat → Bool) : List (Nat × Option Nat × A) → List (Nat × A) → List (Nat × A)
  | [], t => t
  | (i, some d, x) :: r, t => bif f i then (d, x) :: tmpsIn f r t else tmpsIn f r t
  | (_, none, _) :: r, t => tmpsIn f r t

def memIn (f : Nat → Bool) : List (Nat × List (Nat × List A)) → List (Nat × List A) → List (Nat × List A)
  | [], b => b
  | (i, c) :: r, b => bif f i then c else memIn f r b

/-- A value without names. -/
def Plain (l : List A) : Prop := ∀ ρ, renL ρ l = some l

/-- One operation of such a region: the value that it yields. -/
def pop (ao : AOp) (s : St) (K : A → Prop) : Prop :=
  match ao with
  | .mv x _ => K (s.ev x)
  | .pick c a b => match s.ev c, s.ev a, s.ev b with
    | .d (.bool t), .d (.bool p), .d (.bool q) => K (.d (.bool (bif t then p else q)))
    | .d (.bool t), .tup [], .d (.bool q) => t = false ∧ K (.d (.bool q))
    | .d (.bool t), .d (.bool p), .tup [] => t = true ∧ K (.d (.bool p))
    | _, _, _ => False
  | .load ag c x _ => match s.ev x with
    | .ptr n off => match lookB n s.bx with
      | some cs => match ag with
        | true => off + c ≤ cs.length ∧ K (.agg ((cs.drop off).take c))
        | false => match cs[off]? with
          | some a => K a
          | none => False
      | none => False
    | .ep e => match ag with
      | true => c ≤ e.length ∧ K (.agg ((e.take c).map .d))
      | false => match e[0]? with
        | some a => K (.d a)
        | none => False
    | _ => False
  | .nilck x => match s.ev x with
    | .ptr n o => K (.ptr n o)
    | .ep e => K (.ep e)
    | _ => False
  | .bin op x y => match s.ev x, s.ev y with
    | .d (.int k a), .d (.int k' b) => (isShift op = true ∨ k = k') ∧ vcInt op k a b K
    | .d (.str a), .d (.str b) => vcStr op a b K
    | _, _ => False
  | .binB neg x y => match s.ev x, s.ev y with
    | .d (.bool a), .d (.bool b) => K (.d (.bool (bif neg then a != b else a == b)))
    | _, _ => False
  | .eqs neg ks x y => match s.ev x, s.ev y with
    | .agg xs, .agg ys => match eqCells ks xs ys with
      | some b => K (.d (.bool (bif neg then !b else b)))
      | none => False
    | _, _ => False
  | .un op x => match op, s.ev x with
    | .not, .d (.bool b) => K (.d (.bool !b))
    | .neg, .d (.int k n) => K (.d (.int k (k.wrap (0 - n))))
    | .xor, .d (.int k n) => K (.d (.int k (ibits .xor k (bif k.signed then -1 else k.max) n)))
    | _, _ => False
  | .cvi k x => match s.ev x with
    | .d (.int _ n) => K (.d (.int k (k.wrap n)))
    | _ => False
  | .fa off x => match s.ev x with
    | .ptr n o => K (.ptr n (o + off))
    | .ep e => K (.ep (e.drop off))
    | _ => False
  | .ixa n c x i => match s.ev x, s.ev i with
    | .ptr m o, .d (.int _ j) => (0 ≤ j ∧ j < n) ∧ K (.ptr m (o + j.toNat * c))
    | .ep e, .d (.int _ j) => (0 ≤ j ∧ j < n) ∧ K (.ep (e.drop (j.toNat * c)))
    | _, _ => False
  | .ixs c x i => match s.ev x, s.ev i with
    | .d (.sl c' es), .d (.int _ j) => (c' = c ∨ es = []) ∧ (0 ≤ j ∧ j < es.length) ∧ K (.ep (es.getD j.toNat []))
    | .bsl n o len _, .d (.int _ j) => (0 ≤ j ∧ j < len) ∧ K (.ptr n (o + j.toNat * c))
    | _, _ => False
  | .len x => match s.ev x with
    | .d (.sl _ es) => K (.d (.int .i64 es.length))
    | .bsl _ _ len _ => K (.d (.int .i64 len))
    | _ => False
  | .slc c x lo hi _ => match s.ev x with
    | .d (.sl c' es) => (c' = c ∨ es = []) ∧ vcBounds s es.length lo hi (fun l h => K (.d (.sl c ((es.take h).drop l))))
    | _ => False
  | .sla n c x lo hi => match s.ev x with
    | .ptr m o => vcBounds s n lo hi (fun l h => l < n ∧ K (.bsl m (o + l * c) (h - l) (n - l)))
    | _ => False
  | .s2a n c x => match s.ev x with
    | .d (.sl c' es) => (c' = c ∨ es = []) ∧ n ≤ es.length ∧ 0 < n ∧ K (.ep es.flatten)
    | .bsl m o len _ => n ≤ len ∧ K (.ptr m o)
    | _ => False
  | .build zero ps => match evCells s ps with
    | some l => match fillA zero l with
      | some cs => K (.agg cs)
      | none => False
    | none => False
  | .bslc c len zero ps => match evCells s ps with
    | some l => match fillA ((List.replicate len zero).flatten.map .d) l with
      | some cs => match toDs cs with
        | some ds => match chunk c len ds with
          | some es => K (.d (.sl c es))
          | none => False
        | none => False
      | none => False
    | none => False
  | _ => False

def pwr (ao : AOp) (d : Option Nat) (s : St) (K : A → List (Nat × List A) → Prop) : Prop :=
  match ao with
  | .store c x v => match s.ev x, cellsOfA (s.ev v) with
    | .ptr n off, some xs => match lookB n s.bx with
      | some cs => d = none ∧ xs.length = c ∧ off + c ≤ cs.length ∧ xs.all isCell = true ∧ K .any (setB n (lay cs off xs) s.bx)
      | none => False
    | _, _ => False
  | .alloc cs _ => match d with
    | some d => lookB (s.k + d) s.bx = none ∧ K (.ptr (s.k + d) 0) ((s.k + d, cs) :: s.bx)
    | none => False
  | .cpy c dd x => match s.ev dd with
    | .bsl n o len _ => match lookB n s.bx, s.ev x with
      | some cs, .d (.sl c' es) => o + len * c ≤ cs.length ∧ (c' = c ∨ es = []) ∧ K (.d (.int .i64 (min es.length len : Nat))) (setB n (lay cs o ((es.take len).flatten.map .d)) s.bx)
      | _, _ => False
    | _ => False
  | _ => False

def isBs : AOp → Bool
  | .bslc _ _ _ _ => true
  | _ => false

def vcDop (P : Program) (ai : AI) (d : Option Nat) (s : St) (K : A → List (Nat × List A) → Prop) : Prop :=
  match ai with
  | .call f args _ => ∃ x, CS P f (args.map s.ev) [] [] (fun o => o = .ret [x] [] []) ∧ Plain (args.map s.ev) ∧ Plain [x] ∧ s.k = KB ∧ lookB (s.k + d.getD 0) s.bx = none ∧ K x s.bx
  | .callv _ _ => False
  | .op x => (bif isBs x then d.isSome = true else True) ∧ bif isWr (.op x) then pwr x d s K else pop x s (fun y => K y s.bx)

/-- The same, behind its guard. -/
def vcDg (P : Program) (o : AO) (s : St) (K : A → List (Nat × List A) → Prop) : Prop :=
  match o.g with
  | none => vcDop P o.op o.d s K
  | some (j, want) => match look j s.t with
    | .d (.bool c) => (c = want → vcDop P o.op o.d s K) ∧ (c = !want → K (.tup []) s.bx)
    | .tup [] => K (.tup []) s.bx
    | _ => False

def vcD (P : Program) (s0 : St) : List DO → List (Nat × Option Nat × A) → List (Nat × List (Nat × List A)) → (St → Prop) → Prop
  | [], done, mem, K => K { s0 with t := tmpsIn (fun _ => true) done s0.t, bx := memIn (fun _ => true) mem s0.bx, own := [] }
  | x :: r, done, mem, K => vcDg P x.o { s0 with t := tmpsIn (memN · x.anc) done s0.t, bx := memIn (memN · x.anc) mem s0.bx, own := [] }
      (fun y bx' => vcD P s0 r ((x.i, x.o.d, y) :: done) (bif isWr x.o.op then (x.i, bx') :: mem else mem) K)

/-! ### One operation -/

def SubB (b b' : List (Nat × List A)) : Prop := ∀ n cs, lookB n b = some cs → lookB n b' = some cs

/-- A state in which an operation does the same. -/
structure Same (ai : AI) (s t : St) : Prop where
  k : t.k = s.k
  own : t.own = []
  ev : ∀ x, x ∈ opdsI ai → t.ev x = s.ev x
  ex : isWr ai = true ∨ isCa ai = true → t.bx = s.bx
  sub : isLd ai = true → SubB s.bx t.bx

structure SameG (o : AO) (s t : St) : Prop where
  same : Same o.op s t
  gv : ∀ j w, o.g = some (j, w) → look j t.t = look j s.t

/-- What is known of the state behind it. -/
def Behind (ai : AI) (d : Option Nat) (x : A) (bx' : List (Nat × List A)) (t : St) : St → Prop := fun u =>
  u.bx = (bif isWr ai then bx' else t.bx) ∧ ∀ j, look j u.t = if d = some j then x else look j t.t

theorem behind_setd {ai : AI} (hw : isWr ai = false) (d : Option Nat) (x : A) (b : List (Nat × List A)) (t : St) : Behind ai d x b t (t.setd d x) := by
  cases d with
  | none => exact ⟨by rw [hw]; rfl, fun j => by simp [St.setd]⟩
  | some d =>
    refine ⟨by rw [hw]; rfl, fun j => ?_⟩
    show look j ((d, x) :: t.t) = _
    rw [look_cons]
    by_cases h : j = d
    · subst h; simp
    · rw [if_neg h, if_neg (by simpa using Ne.symm h)]

theorem behind_set {ai : AI} (hw : isWr ai = false) (d : Nat) (x : A) (b : List (Nat × List A)) (t : St) (ow : List (Loc × Nat)) : Behind ai (some d) x b t { t with t := (d, x) :: t.t, own := ow } := by
  have := behind_setd hw (some d) x b t
  exact this

theorem vcInt_static {op : BinOp} {k : IntKind} {a b : Int} {K : A → Prop} (h : vcInt op k a b K) : ∃ x, K x ∧ ∀ K' : A → Prop, K' x → vcInt op k a b K' := by
  cases op <;> simp only [vcInt] at h ⊢ <;> first | exact ⟨_, h, fun _ h => h⟩ | exact ⟨_, h.2, fun _ h' => ⟨h.1, h'⟩⟩

theorem vcStr_static {op : BinOp} {a b : List UInt8} {K : A → Prop} (h : vcStr op a b K) : ∃ x, K x ∧ ∀ K' : A → Prop, K' x → vcStr op a b K' := by
  cases op <;> simp only [vcStr] at h ⊢ <;> first | exact ⟨_, h, fun _ h => h⟩ | exact ⟨_, h.2, fun _ h' => ⟨h.1, h'⟩⟩ | exact h.elim

theorem vcBounds_static {s : St} {len : Nat} {lo hi : Option Opd} {K : Nat → Nat → Prop} (h : vcBounds s len lo hi K) :
    ∃ l u, K l u ∧ ∀ (t : St) (K' : Nat → Nat → Prop), (∀ x, x ∈ lo.toList ++ hi.toList → t.ev x = s.ev x) → K' l u → vcBounds t len lo hi K' := by
  unfold vcBounds at h
  cases lo with
  | none =>
    cases hi with
    | none => exact ⟨_, _, h, fun t K' _ hk => hk⟩
    | some x =>
      simp only at h
      split at h
      · rename_i k b e
        refine ⟨_, _, h.2, fun t K' he hk => ?_⟩
        unfold vcBounds
        simp only [he x (by simp), e]
        exact ⟨h.1, hk⟩
      · exact h.elim
  | some y =>
    cases hi with
    | none =>
      simp only at h
      split at h
      · rename_i k b e
        refine ⟨_, _, h.2, fun t K' he hk => ?_⟩
        unfold vcBounds
        simp only [he y (by simp), e]
        exact ⟨h.1, hk⟩
      · exact h.elim
    | some x =>
      simp only at h
      split at h
      · rename_i k1 p k2 q e1 e2
        refine ⟨_, _, h.2, fun t K' he hk => ?_⟩
        unfold vcBounds
        simp only [he y (by simp), he x (by simp), e1, e2]
        exact ⟨h.1, hk⟩
      · exact h.elim

theorem evCells_same {s t : St} : ∀ (ps : List (Nat × Nat × Opd)), (∀ x, x ∈ ps.map (fun p => p.2.2) → t.ev x = s.ev x) → evCells t ps = evCells s ps := by
  intro ps
  induction ps with
  | nil => intro _; rfl
  | cons p r ih =>
    obtain ⟨o, c, x⟩ := p
    intro h
    simp only [evCells]
    rw [h x (by simp), ih (fun y hy => h y (by simp only [List.map_cons, List.mem_cons]; exact .inr hy))]

theorem ownOf_nil (i : Nat) : ownOf i [] = none := rfl

theorem pop_spec {ao : AOp} {s : St} {d : Option Nat} {K : A → Prop} {KP : D → Prop} {b : List (Nat × List A)} (hw : isWr (.op ao) = false) (h : pop ao s K) (hdb : ∀ c n z ps, ao = .bslc c n z ps → d ≠ none) :
    ∃ x, K x ∧ ∀ t, Same (.op ao) s t → vcOp ao d t (Behind (.op ao) d x b t) KP := by
  cases ao <;> simp only [pop] at h <;> try exact h.elim
  case mv x tr =>
    refine ⟨_, h, fun t ht => ?_⟩
    have e := ht.ev x (by simp [opdsI, opdsOf])
    rw [vcOp.eq_def]
    simp only
    split
    · rename_i i dd
      unfold St.take
      rw [ht.own]
      simp only [ownOf_nil]
      have e' : look i t.t = s.ev (.t i) := e
      rw [e']
      exact behind_set hw _ _ b t _
    · rw [e]; exact behind_setd hw _ _ b t
  case pick c x y =>
    split at h
    · rename_i tt p q e1 e2 e3
      refine ⟨_, h, fun t ht => ?_⟩
      have h1 := ht.ev c (by simp [opdsI, opdsOf])
      have h2 := ht.ev x (by simp [opdsI, opdsOf])
      have h3 := ht.ev y (by simp [opdsI, opdsOf])
      rw [vcOp.eq_def]
      simp only [h1, h2, h3, e1, e2, e3]
      exact ⟨fun e => by subst e; exact behind_setd hw _ _ b t, fun e => by subst e; exact behind_setd hw _ _ b t⟩
    · rename_i tt q e1 e2 e3
      refine ⟨_, h.2, fun t ht => ?_⟩
      have h1 := ht.ev c (by simp [opdsI, opdsOf])
      have h2 := ht.ev x (by simp [opdsI, opdsOf])
      have h3 := ht.ev y (by simp [opdsI, opdsOf])
      rw [vcOp.eq_def]
      simp only [h1, h2, h3, e1, e2, e3]
      exact ⟨fun e => absurd e (by rw [h.1]; decide), fun _ => behind_setd hw _ _ b t⟩
    · rename_i tt q e1 e2 e3
      refine ⟨_, h.2, fun t ht => ?_⟩
      have h1 := ht.ev c (by simp [opdsI, opdsOf])
      have h2 := ht.ev x (by simp [opdsI, opdsOf])
      have h3 := ht.ev y (by simp [opdsI, opdsOf])
      rw [vcOp.eq_def]
      simp only [h1, h2, h3, e1, e2, e3]
      exact ⟨fun _ => behind_setd hw _ _ b t, fun e => absurd e (by rw [h.1]; decide)⟩
    · exact h.elim
  case load ag c x tr =>
    have key : ∀ t, Same (.op (.load ag c x tr)) s t → ∀ n off, ownOfB n off t.own = none := fun t ht n off => by rw [ht.own]; rfl
    split at h
    · rename_i n off e1
      split at h
      · rename_i cs e2
        cases ag with
        | true =>
          simp only at h
          refine ⟨_, h.2, fun t ht => ?_⟩
          have h1 := ht.ev x (by simp [opdsI, opdsOf])
          have h2 := ht.sub rfl n cs e2
          rw [vcOp.eq_def]
          simp only [h1, e1, h2]
          exact ⟨h.1, behind_setd hw _ _ b t⟩
        | false =>
          simp only at h
          split at h
          · rename_i a e3
            refine ⟨_, h, fun t ht => ?_⟩
            have h1 := ht.ev x (by simp [opdsI, opdsOf])
            have h2 := ht.sub rfl n cs e2
            rw [vcOp.eq_def]
            simp only [h1, e1, h2, key t ht]
            exact ⟨a, e3, behind_setd hw _ _ b t⟩
          · exact h.elim
      · exact h.elim
    · rename_i e e1
      cases ag with
      | true =>
        simp only at h
        refine ⟨_, h.2, fun t ht => ?_⟩
        have h1 := ht.ev x (by simp [opdsI, opdsOf])
        rw [vcOp.eq_def]
        simp only [h1, e1]
        exact ⟨h.1, behind_setd hw _ _ b t⟩
      | false =>
        simp only at h
        split at h
        · rename_i a e3
          refine ⟨_, h, fun t ht => ?_⟩
          have h1 := ht.ev x (by simp [opdsI, opdsOf])
          rw [vcOp.eq_def]
          simp only [h1, e1]
          exact ⟨a, e3, behind_setd hw _ _ b t⟩
        · exact h.elim
    · exact h.elim
  case nilck x =>
    split at h
    · rename_i n off e1
      refine ⟨_, h, fun t ht => ?_⟩
      have h1 := ht.ev x (by simp [opdsI, opdsOf])
      rw [vcOp.eq_def]
      simp only [h1, e1]
      exact behind_setd hw _ _ b t
    · rename_i e1
      refine ⟨_, h, fun t ht => ?_⟩
      have h1 := ht.ev x (by simp [opdsI, opdsOf])
      rw [vcOp.eq_def]
      simp only [h1, e1]
      exact behind_setd hw _ _ b t
    · exact h.elim
  case bin op x y =>
    split at h
    · rename_i e1 e2
      obtain ⟨v, hv, hs⟩ := vcInt_static h.2
      refine ⟨v, hv, fun t ht => ?_⟩
      have h1 := ht.ev x (by simp [opdsI, opdsOf])
      have h2 := ht.ev y (by simp [opdsI, opdsOf])
      rw [vcOp.eq_def]
      simp only [h1, h2, e1, e2]
      exact ⟨h.1, hs _ (behind_setd hw _ _ b t)⟩
    · rename_i e1 e2
      obtain ⟨v, hv, hs⟩ := vcStr_static h
      refine ⟨v, hv, fun t ht => ?_⟩
      have h1 := ht.ev x (by simp [opdsI, opdsOf])
      have h2 := ht.ev y (by simp [opdsI, opdsOf])
      rw [vcOp.eq_def]
      simp only [h1, h2, e1, e2]
      exact hs _ (behind_setd hw _ _ b t)
    · exact h.elim
  case binB neg x y =>
    split at h
    · rename_i e1 e2
      refine ⟨_, h, fun t ht => ?_⟩
      have h1 := ht.ev x (by simp [opdsI, opdsOf])
      have h2 := ht.ev y (by simp [opdsI, opdsOf])
      rw [vcOp.eq_def]
      simp only [h1, h2, e1, e2]
      exact behind_setd hw _ _ b t
    · exact h.elim
  case eqs neg ks x y =>
    split at h
    · rename_i e1 e2
      split at h
      · rename_i e3
        refine ⟨_, h, fun t ht => ?_⟩
        have h1 := ht.ev x (by simp [opdsI, opdsOf])
        have h2 := ht.ev y (by simp [opdsI, opdsOf])
        rw [vcOp.eq_def]
        simp only [h1, h2, e1, e2, e3]
        exact behind_setd hw _ _ b t
      · exact h.elim
    · exact h.elim
  case un op x =>
    split at h
    all_goals first
      | exact h.elim
      | (rename_i e1
         refine ⟨_, h, fun t ht => ?_⟩
         have h1 := ht.ev x (by simp [opdsI, opdsOf])
         rw [vcOp.eq_def]
         simp only [h1, e1]
         exact behind_setd hw _ _ b t)
  case cvi k x =>
    split at h
    · rename_i e1
      refine ⟨_, h, fun t ht => ?_⟩
      have h1 := ht.ev x (by simp [opdsI, opdsOf])
      rw [vcOp.eq_def]
      simp only [h1, e1]
      exact behind_setd hw _ _ b t
    · exact h.elim
  case fa off x =>
    split at h
    all_goals first
      | exact h.elim
      | (rename_i e1
         refine ⟨_, h, fun t ht => ?_⟩
         have h1 := ht.ev x (by simp [opdsI, opdsOf])
         rw [vcOp.eq_def]
         simp only [h1, e1]
         exact behind_setd hw _ _ b t)
  case ixa n c x i =>
    split at h
    all_goals first
      | exact h.elim
      | (rename_i e1 e2
         refine ⟨_, h.2, fun t ht => ?_⟩
         have h1 := ht.ev x (by simp [opdsI, opdsOf])
         have h2 := ht.ev i (by simp [opdsI, opdsOf])
         rw [vcOp.eq_def]
         simp only [h1, h2, e1, e2]
         exact ⟨h.1, behind_setd hw _ _ b t⟩)
  case ixs c x i =>
    split at h
    · rename_i e1 e2
      refine ⟨_, h.2.2, fun t ht => ?_⟩
      have h1 := ht.ev x (by simp [opdsI, opdsOf])
      have h2 := ht.ev i (by simp [opdsI, opdsOf])
      rw [vcOp.eq_def]
      simp only [h1, h2, e1, e2]
      exact ⟨h.1, h.2.1, behind_setd hw _ _ b t⟩
    · rename_i e1 e2
      refine ⟨_, h.2, fun t ht => ?_⟩
      have h1 := ht.ev x (by simp [opdsI, opdsOf])
      have h2 := ht.ev i (by simp [opdsI, opdsOf])
      rw [vcOp.eq_def]
      simp only [h1, h2, e1, e2]
      exact ⟨h.1, behind_setd hw _ _ b t⟩
    · exact h.elim
  case len x =>
    split at h
    · rename_i e1
      refine ⟨_, h, fun t ht => ?_⟩
      have h1 := ht.ev x (by simp [opdsI, opdsOf])
      rw [vcOp.eq_def]
      simp only [h1, e1]
      exact fun _ => behind_setd hw _ _ b t
    · rename_i e1
      refine ⟨_, h, fun t ht => ?_⟩
      have h1 := ht.ev x (by simp [opdsI, opdsOf])
      rw [vcOp.eq_def]
      simp only [h1, e1]
      exact behind_setd hw _ _ b t
    · exact h.elim
  case slc c x lo hi tr =>
    split at h
    · rename_i c' es e1
      obtain ⟨l, u, hv, hs⟩ := vcBounds_static h.2
      refine ⟨_, hv, fun t ht => ?_⟩
      have h1 := ht.ev x (by simp [opdsI, opdsOf])
      rw [vcOp.eq_def]
      simp only [h1, e1]
      refine ⟨h.1, fun _ => ?_⟩
      refine hs t _ (fun y hy => ht.ev y (by simp only [opdsI, opdsOf]; exact List.mem_cons_of_mem _ hy)) ?_
      split
      · rename_i i dd
        rw [ht.own]
        simp only [ownOf_nil]
        exact behind_set hw _ _ b t _
      · exact behind_setd hw _ _ b t
    · exact h.elim
  case sla n c x lo hi =>
    split at h
    · rename_i m o e1
      obtain ⟨l, u, hv, hs⟩ := vcBounds_static h
      refine ⟨_, hv.2, fun t ht => ?_⟩
      have h1 := ht.ev x (by simp [opdsI, opdsOf])
      rw [vcOp.eq_def]
      simp only [h1, e1]
      exact hs t _ (fun y hy => ht.ev y (by simp only [opdsI, opdsOf]; exact List.mem_cons_of_mem _ hy)) ⟨hv.1, behind_setd hw _ _ b t⟩
    · exact h.elim
  case s2a n c x =>
    split at h
    · rename_i e1
      refine ⟨_, h.2.2.2, fun t ht => ?_⟩
      have h1 := ht.ev x (by simp [opdsI, opdsOf])
      rw [vcOp.eq_def]
      simp only [h1, e1]
      exact ⟨h.1, h.2.1, h.2.2.1, behind_setd hw _ _ b t⟩
    · rename_i e1
      refine ⟨_, h.2, fun t ht => ?_⟩
      have h1 := ht.ev x (by simp [opdsI, opdsOf])
      rw [vcOp.eq_def]
      simp only [h1, e1]
      exact ⟨h.1, behind_setd hw _ _ b t⟩
    · exact h.elim
  case build z ps =>
    split at h
    · rename_i l e1
      split at h
      · rename_i cs e2
        refine ⟨_, h, fun t ht => ?_⟩
        have h1 := evCells_same ps (fun y hy => ht.ev y (by simp only [opdsI, opdsOf]; exact hy))
        rw [vcOp.eq_def]
        simp only [h1, e1, e2]
        exact behind_setd hw _ _ b t
      · exact h.elim
    · exact h.elim
  case bslc c n z ps =>
    cases d with
    | none => exact absurd rfl (hdb _ _ _ _ rfl)
    | some d =>
      split at h
      · rename_i l e1
        split at h
        · rename_i cs e2
          split at h
          · rename_i ds e3
            split at h
            · rename_i es e4
              refine ⟨_, h, fun t ht => ?_⟩
              have h1 := evCells_same ps (fun y hy => ht.ev y (by simp only [opdsI, opdsOf]; exact hy))
              rw [vcOp.eq_def]
              simp only [h1, e1, e2, e3, e4]
              exact behind_set hw _ _ b t _
            · exact h.elim
          · exact h.elim
        · exact h.elim
      · exact h.elim

theorem pwr_spec {ao : AOp} {s : St} {d : Option Nat} {K : A → List (Nat × List A) → Prop} {KP : D → Prop} (h : pwr ao d s K) :
    ∃ x b, K x b ∧ (isAl (.op ao) = true → SubB s.bx b) ∧ ∀ t, Same (.op ao) s t → vcOp ao d t (Behind (.op ao) d x b t) KP := by
  cases ao <;> simp only [pwr] at h <;> try exact h.elim
  case store c x v =>
    split at h
    · rename_i n off xs e1 e2
      split at h
      · rename_i cs e3
        obtain ⟨q0, q1, q2, q3, hk⟩ := h
        refine ⟨_, _, hk, (fun e => nomatch e), fun t ht => ?_⟩
        have h1 := ht.ev x (by simp [opdsI, opdsOf])
        have h2 := ht.ev v (by simp [opdsI, opdsOf])
        have h3 := ht.ex (.inl rfl)
        rw [vcOp.eq_def]
        simp only [h1, h2, e1, e2, h3, e3]
        refine ⟨q1, q2, q3, ?_⟩
        have fin : ∀ ow, Behind (.op (.store c x v)) d .any (setB n (lay cs off xs) s.bx) t { t with bx := setB n (lay cs off xs) s.bx, own := ow } := fun ow =>
          ⟨rfl, fun j => by rw [q0]; simp⟩
        cases v with
        | t i =>
          simp only
          rw [ht.own]
          simp only [ownOf_nil]
          split
          · rename_i hq; cases hq
          · exact fin _
        | c a => exact fin _
      · exact h.elim
    · exact h.elim
  case alloc cs ow =>
    split at h
    · rename_i dd
      refine ⟨_, _, h.2, fun _ => ?_, fun t ht => ?_⟩
      · intro n c hn
        rw [lookB_cons, if_neg ?_]
        · exact hn
        · intro e
          rw [e, h.1] at hn
          cases hn
      · rw [vcOp.eq_def]
        have h3 := ht.ex (.inl rfl)
        simp only
        rw [h3, ht.k]
        refine ⟨h.1, rfl, fun j => ?_⟩
        show look j ((dd, _) :: t.t) = _
        rw [look_cons]
        by_cases hj : j = dd
        · subst hj; simp
        · rw [if_neg hj, if_neg (by simpa using Ne.symm hj)]
    · exact h.elim
  case cpy c dd x =>
    split at h
    · rename_i n o len cap e1
      split at h
      · rename_i cs c' es e2 e3
        obtain ⟨q1, q2, hk⟩ := h
        refine ⟨_, _, hk, (fun e => nomatch e), fun t ht => ?_⟩
        have h1 := ht.ev dd (by simp [opdsI, opdsOf])
        have h2 := ht.ev x (by simp [opdsI, opdsOf])
        have h3 := ht.ex (.inl rfl)
        rw [vcOp.eq_def]
        simp only [h1, h2, e1, e3, h3]
        refine ⟨cs, e2, q1, ?_⟩
        simp only [srcCells]
        refine ⟨q2, fun _ => ?_⟩
        cases d with
        | none => exact ⟨rfl, fun j => by simp [St.setd]⟩
        | some d =>
          refine ⟨rfl, fun j => ?_⟩
          show look j ((d, _) :: t.t) = _
          rw [look_cons]
          by_cases hj : j = d
          · subst hj; simp
          · rw [if_neg hj, if_neg (by simpa using Ne.symm hj)]
      · exact h.elim
    · exact h.elim

/-! ### A call -/

theorem renL_empty_ptr {ρ0 : List (Nat × Nat)} (_ : ρ0 = []) {x : A} {y : A} (h : renA [] x = some y) : (∀ m o, x ≠ .ptr m o) ∧ (∀ m o l c, x ≠ .bsl m o l c) := by
  constructor
  · intro m o e; subst e; simp [renA, findN] at h
  · intro m o l c e; subst e; simp [renA, findN] at h

theorem renL_nil_cons {x : A} {l m : List A} (h : renL [] (x :: l) = some m) : ∃ y r, renA [] x = some y ∧ renL [] l = some r ∧ m = y :: r := by
  simp only [renL] at h
  split at h
  · rename_i y r h1 h2; cases h; exact ⟨y, r, h1, h2, rfl⟩
  · cases h

theorem mkCaps_plain : ∀ (l : List A) (base j : Nat) (m : List A), renL [] l = some m → mkCaps [] base j l = [] := by
  intro l
  induction l with
  | nil => intro base j m _; rfl
  | cons x l ih =>
    intro base j m h
    obtain ⟨y, r, h1, h2, _⟩ := renL_nil_cons h
    have hp := (renL_empty_ptr rfl h1).1
    cases x <;> simp only [mkCaps] <;> first | exact ih _ _ _ h2 | exact absurd rfl (hp _ _)

theorem mkRen_plain : ∀ (l : List A) (i : Nat) (m : List A), renL [] l = some m → mkRen [] i l = [] := by
  intro l
  induction l with
  | nil => intro i m _; rfl
  | cons x l ih =>
    intro i m h
    obtain ⟨y, r, h1, h2, _⟩ := renL_nil_cons h
    obtain ⟨hp, hb⟩ := renL_empty_ptr rfl h1
    cases x with
    | ptr m o => exact absurd rfl (hp _ _)
    | bsl m o l c => exact absurd rfl (hb _ _ _ _)
    | clo f cs =>
      simp only [mkRen]
      have : ∃ m', renL [] cs = some m' := by
        simp only [renA] at h1
        split at h1
        · rename_i q hq; exact ⟨q, hq⟩
        · cases h1
      obtain ⟨m', hm'⟩ := this
      rw [mkCaps_plain cs _ _ m' hm']
      exact ih _ _ h2
    | _ => simp only [mkRen]; exact ih _ _ h2

theorem passOB_nil (l : List (Loc × Nat)) : passOB [] l = [] := by
  induction l with
  | nil => rfl
  | cons p l ih => obtain ⟨q, c⟩ := p; cases q <;> simp [passOB, findN, ih]

theorem quiet_call {P : Program} {f : FuncId} {args : List A} {ops : List Opd} {po d : Option Nat} {t : St} {x : A} {K : St → Prop} {KP : D → St → Prop}
    (h : CS P f args [] [] (fun o => o = .ret [x] [] [])) (ha : Plain args) (hx : Plain [x]) (hk : t.k = KB) (hn : lookB (t.k + d.getD 0) t.bx = none) (ho : t.own = [])
    (hK : ∀ ow, K { t with t := setT d x t.t, own := ow }) : vcCall P f args ops po d t K KP := by
  have e := mkRen_plain args 0 args (ha [])
  unfold vcCall
  refine ⟨Nat.le_of_eq hk.symm, ?_⟩
  rw [e]
  simp only [okRen, ha [], passB]
  rw [passOB_nil, List.append_nil]
  have e2 : passT po t.own ops = [] := by
    rw [ho]
    unfold passT
    split
    · split
      · rfl
      · rfl
    · rfl
  rw [e2]
  refine h.mono ?_
  rintro o rfl
  simp only [vcBack, newName, flipN, List.append_nil, backB]
  refine ⟨hn, ?_⟩
  simp only [hx []]
  exact hK _

theorem dop_spec {P : Program} {ai : AI} {d : Option Nat} {s : St} {K : A → List (Nat × List A) → Prop} (h : vcDop P ai d s K) :
    ∃ x b, K x b ∧ (isWr ai = false → b = s.bx) ∧ (isAl ai = true → SubB s.bx b) ∧ ∀ t, Same ai s t → vcOne P ⟨d, none, ai⟩ t (Behind ai d x b t) (fun _ _ => False) := by
  cases ai with
  | call f args po =>
    obtain ⟨x, hc, ha, hx, hk, hn, hK⟩ := h
    refine ⟨x, s.bx, hK, fun _ => rfl, (fun e => nomatch e), fun t ht => ?_⟩
    have e : args.map t.ev = args.map s.ev := List.map_congr_left (fun y hy => ht.ev y hy)
    simp only [vcOne]
    rw [e]
    refine quiet_call hc ha hx (ht.k.trans hk) (by rw [ht.k, ht.ex (.inr rfl)]; exact hn) ht.own (fun ow => ?_)
    cases d with
    | none => exact ⟨rfl, fun j => by simp [setT]⟩
    | some d => exact behind_set rfl d x s.bx t ow
  | callv f args => exact h.elim
  | op x =>
    simp only [vcDop] at h
    obtain ⟨hdb, h⟩ := h
    cases hw : isWr (.op x) with
    | true =>
      rw [hw] at h
      change pwr x d s K at h
      obtain ⟨y, b, hk, ha, hs⟩ := pwr_spec (KP := fun _ => False) h
      exact ⟨y, b, hk, (fun e => nomatch e), ha, fun t ht => hs t ht⟩
    | false =>
      rw [hw] at h
      change pop x s (fun y => K y s.bx) at h
      have hbs : ∀ c n z ps, x = .bslc c n z ps → d ≠ none := fun c n z ps e hd => by
        subst e
        subst hd
        simp [isBs] at hdb
      obtain ⟨y, hk, hs⟩ := pop_spec (KP := fun _ => False) (b := s.bx) hw h hbs
      refine ⟨y, s.bx, hk, fun _ => rfl, fun e => ?_, fun t ht => hs t ht⟩
      cases x <;> first | (simp [isAl] at e; done) | (simp [isWr] at hw; done)

/-- One operation behind its guard, in any state. -/
def vcOneG (P : Program) (o : AO) (t : St) (K : St → Prop) : Prop :=
  match o.g with
  | none => vcOne P ⟨o.d, none, o.op⟩ t K (fun _ _ => False)
  | some (j, want) => match look j t.t with
    | .d (.bool c) => (c = want → vcOne P ⟨o.d, none, o.op⟩ t K (fun _ _ => False)) ∧ (c = !want → K (t.setd o.d (.tup [])))
    | .tup [] => K (t.setd o.d (.tup []))
    | _ => False

theorem behind_skip {ai : AI} {s t : St} (h : Same ai s t) (d : Option Nat) : Behind ai d (.tup []) s.bx t (t.setd d (.tup [])) := by
  constructor
  · have e : (t.setd d (.tup [])).bx = t.bx := by cases d <;> rfl
    rw [e]
    cases hw : isWr ai with
    | true => exact h.ex (.inl hw)
    | false => rfl
  · intro j
    cases d with
    | none => simp [St.setd]
    | some d =>
      show look j ((d, _) :: t.t) = _
      rw [look_cons]
      by_cases h : j = d
      · subst h; simp
      · rw [if_neg h, if_neg (by simpa using Ne.symm h)]

theorem dopg_spec {P : Program} {o : AO} {s : St} {K : A → List (Nat × List A) → Prop} (h : vcDg P o s K) :
    ∃ x b, K x b ∧ (isAl o.op = true → SubB s.bx b) ∧ ∀ t, SameG o s t → vcOneG P o t (Behind o.op o.d x b t) := by
  obtain ⟨d, g, ai⟩ := o
  cases g with
  | none =>
    obtain ⟨x, b, h1, _, h3, h4⟩ := dop_spec (show vcDop P ai d s K from h)
    exact ⟨x, b, h1, h3, fun t ht => h4 t ht.same⟩
  | some jw =>
    obtain ⟨j, want⟩ := jw
    simp only [vcDg] at h
    split at h
    · rename_i c e
      by_cases hc : c = want
      · obtain ⟨x, b, h1, _, h3, h4⟩ := dop_spec (h.1 hc)
        refine ⟨x, b, h1, h3, fun t ht => ?_⟩
        have e' := (ht.gv j want rfl).trans e
        simp only [vcOneG, e']
        exact ⟨fun _ => h4 t ht.same, fun hn => by subst hc; cases c <;> cases hn⟩
      · have hn : c = !want := by cases c <;> cases want <;> simp_all
        refine ⟨.tup [], s.bx, h.2 hn, fun _ _ _ q => q, fun t ht => ?_⟩
        have e' := (ht.gv j want rfl).trans e
        simp only [vcOneG, e']
        exact ⟨fun q => absurd q hc, fun _ => behind_skip ht.same d⟩
    · rename_i e
      refine ⟨.tup [], s.bx, h, fun _ _ _ q => q, fun t ht => ?_⟩
      have e' := (ht.gv j want rfl).trans e
      simp only [vcOneG, e']
      exact behind_skip ht.same d
    · exact h.elim

end Go.Vx

/- Regions that draw their order: the facts of the compiler, and the chain of the operations. -/
namespace Go.Vx
set_option linter.unusedVariables false
set_option linter.unusedSimpArgs false
open Go

theorem memN_cons (i j : Nat) (l : List Nat) : memN i (j :: l) = (decide (i = j) || memN i l) := by
  show (bif Nat.beq i j then true else memN i l) = _
  by_cases h : i = j
  · subst h; simp
  · have : Nat.beq i j = false := by cases hq : Nat.beq i j; rfl; exact absurd (Nat.eq_of_beq_eq_true hq) h
    simp [h, this]

theorem memN_insN {j x : Nat} {l : List Nat} : memN j (insN x l) = (decide (j = x) || memN j l) := by
  unfold insN
  cases h : memN x l with
  | true =>
    simp only [cond_true]
    by_cases hj : j = x
    · subst hj; simp [h]
    · simp [hj]
  | false => simp only [cond_false, memN_cons]

theorem memN_uniN {j : Nat} : ∀ {r l : List Nat}, memN j (uniN r l) = (memN j r || memN j l) := by
  intro r
  induction r with
  | nil => intro l; simp [uniN, memN]
  | cons x r ih => intro l; simp only [uniN, memN_insN, ih, memN_cons, Bool.or_assoc]

theorem lookN_cons (n m : Nat) (a : List Nat) (l : List (Nat × List Nat)) : lookN n ((m, a) :: l) = if n = m then some a else lookN n l := by
  show (bif Nat.beq n m then some a else lookN n l) = _
  by_cases h : n = m
  · subst h; simp
  · have : Nat.beq n m = false := by cases hq : Nat.beq n m; rfl; exact absurd (Nat.eq_of_beq_eq_true hq) h
    simp [h, this]

theorem ancOf_spec {ancs : List (Nat × List Nat)} : ∀ (es : List Edge) (l : List Nat), ancOf ancs es = some l →
    (∀ e, e ∈ es → Region.binds .any e = true → (∃ A, lookN e.on ancs = some A) ∧ memN e.on l = true) ∧
    ∀ j, memN j l = true → ∃ e, e ∈ es ∧ Region.binds .any e = true ∧ (j = e.on ∨ ∃ A, lookN e.on ancs = some A ∧ memN j A = true) := by
  intro es
  induction es with
  | nil =>
    intro l h
    simp only [ancOf, Option.some.injEq] at h
    subst h
    exact ⟨fun e he => (by cases he), fun j hj => by simp [memN] at hj⟩
  | cons e r ih =>
    intro l h
    simp only [ancOf] at h
    split at h
    · cases h
    · rename_i m hm
      obtain ⟨i1, i2⟩ := ih m hm
      split at h
      · rename_i hb
        split at h
        · rename_i A hA
          cases h
          constructor
          · intro e' he' hb'
            rcases List.mem_cons.1 he' with rfl | he'
            · exact ⟨⟨A, hA⟩, by simp [memN_insN]⟩
            · obtain ⟨h1, h2⟩ := i1 e' he' hb'
              exact ⟨h1, by simp [memN_insN, memN_uniN, h2]⟩
          · intro j hj
            simp only [memN_insN, memN_uniN, Bool.or_eq_true, decide_eq_true_eq] at hj
            rcases hj with rfl | hj | hj
            · exact ⟨e, .head _, hb, .inl rfl⟩
            · exact ⟨e, .head _, hb, .inr ⟨A, hA, hj⟩⟩
            · obtain ⟨e', he', h1, h2⟩ := i2 j hj
              exact ⟨e', .tail _ he', h1, h2⟩
        · cases h
      · rename_i hb
        cases h
        constructor
        · intro e' he' hb'
          rcases List.mem_cons.1 he' with rfl | he'
          · exact absurd hb' hb
          · exact i1 e' he' hb'
        · intro j hj
          obtain ⟨e', he', h1, h2⟩ := i2 j hj
          exact ⟨e', .tail _ he', h1, h2⟩

/-- What is known of an operation's compiled form. -/
structure OpFact (P : Program) (ows : List (FuncId × Nat)) (N : Nat) (ops : Array Oper) (i : Nat) (o : Oper) (x : DO) : Prop where
  i : x.i = i
  c : compI P ows ops.toList o = some x.o.op
  g : compG ops o.guard = some x.o.g
  d : x.o.d = o.dst
  ok : dstOk N o = true

theorem compD_facts {P : Program} {ows : List (FuncId × Nat)} {N : Nat} {ops : Array Oper} : ∀ (r : List Oper) (k : Nat) (ancs : List (Nat × List Nat)) (l : List DO),
    compD P ows N ops k ancs r = some l → (∀ j A, lookN j ancs = some A → j < k ∧ ∀ q, memN q A = true → q < k) →
    l.length = r.length ∧ ∀ m o, r[m]? = some o → ∃ x, l[m]? = some x ∧ OpFact P ows N ops (k + m) o x ∧
      (∀ e, e ∈ o.after → Region.binds .any e = true → e.on < k + m) ∧
      ∀ j, memN j x.anc = true → j < k + m ∧ ∃ e, e ∈ o.after ∧ Region.binds .any e = true ∧
        (j = e.on ∨ ∃ A, memN j A = true ∧ (lookN e.on ancs = some A ∨ ∃ m' y, e.on = k + m' ∧ m' < m ∧ l[m']? = some y ∧ y.anc = A)) := by
  intro r
  induction r with
  | nil =>
    intro k ancs l h _
    simp only [compD, Option.some.injEq] at h
    subst h
    exact ⟨rfl, fun m o hm => by simp at hm⟩
  | cons o r ih =>
    intro k ancs l h hk
    simp only [compD] at h
    split at h
    · rename_i ai a hc hg ha
      split at h
      · rename_i hd
        split at h
        · rename_i l' hl'
          simp only [Option.some.injEq] at h
          subst h
          obtain ⟨a1, a2⟩ := ancOf_spec _ _ ha
          obtain ⟨i1, i2⟩ := ih (k + 1) ((k, a) :: ancs) l' hl' (fun j A hj => by
            rw [lookN_cons] at hj
            split at hj
            · cases hj
              refine ⟨by omega, fun q hq => ?_⟩
              obtain ⟨e, he, hb, hq⟩ := a2 q hq
              obtain ⟨⟨A, hA⟩, _⟩ := a1 e he hb
              rcases hq with rfl | ⟨A', hA', hj'⟩
              · have := (hk _ _ hA).1; omega
              · have := (hk _ _ hA').2 _ hj'; omega
            · obtain ⟨h1, h2⟩ := hk j A hj
              exact ⟨by omega, fun q hq => by have := h2 q hq; omega⟩)
          refine ⟨by simp [i1], ?_⟩
          intro m o' hm
          cases m with
          | zero =>
            simp only [List.getElem?_cons_zero, Option.some.injEq] at hm
            subst hm
            refine ⟨_, rfl, ⟨rfl, hc, hg, rfl, hd⟩, ?_, ?_⟩
            · intro e he hb
              obtain ⟨⟨A, hA⟩, _⟩ := a1 e (by simpa using he) hb
              have := (hk _ _ hA).1
              omega
            · intro j hj
              obtain ⟨e, he, hb, hq⟩ := a2 j hj
              obtain ⟨⟨A, hA⟩, _⟩ := a1 e he hb
              have hlt := (hk _ _ hA).1
              rcases hq with rfl | ⟨A', hA', hj'⟩
              · exact ⟨by omega, e, by simpa using he, hb, .inl rfl⟩
              · exact ⟨by have := (hk _ _ hA').2 _ hj'; omega, e, by simpa using he, hb, .inr ⟨A', hj', .inl hA'⟩⟩
          | succ m =>
            simp only [List.getElem?_cons_succ] at hm
            obtain ⟨x, hx, hf, h1, h2⟩ := i2 m o' hm
            refine ⟨x, by simpa using hx, ?_, ?_, ?_⟩
            · have : k + (m + 1) = k + 1 + m := by omega
              rw [this]; exact hf
            · intro e he hb
              have := h1 e he hb
              omega
            · intro j hj
              obtain ⟨hlt, e, he, hb, hq⟩ := h2 j hj
              refine ⟨by omega, e, he, hb, ?_⟩
              rcases hq with rfl | ⟨A, hA, hq⟩
              · exact .inl rfl
              · refine .inr ⟨A, hA, ?_⟩
                rcases hq with hq | ⟨m', y, e1, e2, e3, e4⟩
                · rw [lookN_cons] at hq
                  split at hq
                  · rename_i e0
                    simp only [Option.some.injEq] at hq
                    exact .inr ⟨0, _, by omega, by omega, rfl, hq⟩
                  · exact .inl hq
                · exact .inr ⟨m' + 1, y, by omega, by omega, by simpa using e3, e4⟩
        · cases h
      · cases h
    · cases h


/-! ### The chain -/

def locS (s : St) (x : DO) (done : List (Nat × Option Nat × A)) (mem : List (Nat × List (Nat × List A))) : St :=
  { s with t := tmpsIn (memN · x.anc) done s.t, bx := memIn (memN · x.anc) mem s.bx, own := [] }

def stL (s : St) (L : Nat → Bool) (done : List (Nat × Option Nat × A)) (mem : List (Nat × List (Nat × List A))) : St :=
  { s with t := tmpsIn L done s.t, bx := memIn L mem s.bx, own := [] }

/-- What each operation does, whatever the order. -/
structure OneFact (P : Program) (s : St) (x : DO) (y : A) (b : List (Nat × List A)) (done : List (Nat × Option Nat × A)) (mem : List (Nat × List (Nat × List A))) : Prop where
  al : isAl x.o.op = true → SubB (memIn (memN · x.anc) mem s.bx) b
  run : ∀ t, SameG x.o (locS s x done mem) t → vcOneG P x.o t (Behind x.o.op x.o.d y b t)

inductive Good (P : Program) (s : St) : List DO → List (Nat × Option Nat × A) → List (Nat × List (Nat × List A)) → List (Nat × Option Nat × A) → List (Nat × List (Nat × List A)) → Prop
  | nil (done mem) : Good P s [] done mem done mem
  | cons (x r y b done mem done' mem') (h : OneFact P s x y b done mem) (hr : Good P s r ((x.i, x.o.d, y) :: done) (bif isWr x.o.op then (x.i, b) :: mem else mem) done' mem') : Good P s (x :: r) done mem done' mem'

theorem good_of_vcD {P : Program} {s : St} {K : St → Prop} : ∀ (l : List DO) (done : List (Nat × Option Nat × A)) (mem : List (Nat × List (Nat × List A))), vcD P s l done mem K →
    ∃ done' mem', Good P s l done mem done' mem' ∧ K (stL s (fun _ => true) done' mem') := by
  intro l
  induction l with
  | nil => intro done mem h; exact ⟨done, mem, .nil _ _, h⟩
  | cons x r ih =>
    intro done mem h
    obtain ⟨y, b, hk, h2, h3⟩ := dopg_spec h
    obtain ⟨done', mem', hg, hK⟩ := ih _ _ hk
    exact ⟨done', mem', .cons x r y b done mem done' mem' ⟨h2, h3⟩ hg, hK⟩

/-- Each operation's own facts, and how the full lists go on from there. -/
theorem good_at {P : Program} {s : St} : ∀ (l : List DO) (done : List (Nat × Option Nat × A)) (mem : List (Nat × List (Nat × List A))) (done' : List (Nat × Option Nat × A)) (mem' : List (Nat × List (Nat × List A))), Good P s l done mem done' mem' →
    (∃ N M, done' = N ++ done ∧ mem' = M ++ mem ∧ (∀ p, p ∈ N → ∃ z, z ∈ l ∧ p.1 = z.i ∧ p.2.1 = z.o.d) ∧ ∀ p, p ∈ M → ∃ z, z ∈ l ∧ p.1 = z.i ∧ isWr z.o.op = true) ∧
    ∀ (k : Nat) x, l[k]? = some x → ∃ y b N M D E, OneFact P s x y b D E ∧ done' = N ++ (x.i, x.o.d, y) :: D ∧ mem' = M ++ (bif isWr x.o.op then (x.i, b) :: E else E) ∧
      (∀ p, p ∈ N → ∃ (k' : Nat) (z : DO), k < k' ∧ l[k']? = some z ∧ p.1 = z.i ∧ p.2.1 = z.o.d) ∧ (∀ p, p ∈ M → ∃ (k' : Nat) (z : DO), k < k' ∧ l[k']? = some z ∧ p.1 = z.i ∧ isWr z.o.op = true) ∧
      (∀ p, p ∈ D → p ∈ done ∨ ∃ (k' : Nat) (z : DO), k' < k ∧ l[k']? = some z ∧ p.1 = z.i ∧ p.2.1 = z.o.d) ∧ (∀ p, p ∈ E → p ∈ mem ∨ ∃ (k' : Nat) (z : DO), k' < k ∧ l[k']? = some z ∧ p.1 = z.i ∧ isWr z.o.op = true) := by
  intro l
  induction l with
  | nil =>
    intro done mem done' mem' h
    cases h
    exact ⟨⟨[], [], rfl, rfl, fun p hp => (by cases hp), fun p hp => (by cases hp)⟩, fun k x hx => by simp at hx⟩
  | cons x r ih =>
    intro done mem done' mem' h
    cases h with | cons _ _ y b _ _ _ _ hf hg =>
    obtain ⟨⟨N, M, e1, e2, n1, n2⟩, i2⟩ := ih _ _ _ _ hg
    have memb : ∀ z, z ∈ r → ∃ (k' : Nat), 0 < k' ∧ (x :: r)[k']? = some z := fun z hz => by
      obtain ⟨k', hk'⟩ := List.mem_iff_getElem?.1 hz
      exact ⟨k' + 1, by omega, by simpa using hk'⟩
    constructor
    · refine ⟨N ++ [(x.i, x.o.d, y)], M ++ (bif isWr x.o.op then [(x.i, b)] else []), by simp [e1], ?_, ?_, ?_⟩
      · rw [e2]; cases isWr x.o.op <;> simp
      · intro p hp
        rcases List.mem_append.1 hp with hp | hp
        · obtain ⟨z, hz, q⟩ := n1 p hp; exact ⟨z, .tail _ hz, q⟩
        · simp only [List.mem_singleton] at hp; subst hp; exact ⟨x, .head _, rfl, rfl⟩
      · intro p hp
        rcases List.mem_append.1 hp with hp | hp
        · obtain ⟨z, hz, q⟩ := n2 p hp; exact ⟨z, .tail _ hz, q⟩
        · cases hw : isWr x.o.op with
          | true => rw [hw] at hp; simp only [cond_true, List.mem_singleton] at hp; subst hp; exact ⟨x, .head _, rfl, hw⟩
          | false => rw [hw] at hp; cases hp
    · intro k z hz
      cases k with
      | zero =>
        simp only [List.getElem?_cons_zero, Option.some.injEq] at hz
        subst hz
        refine ⟨y, b, N, M, done, mem, hf, e1, e2, ?_, ?_, fun p hp => .inl hp, fun p hp => .inl hp⟩
        · intro p hp
          obtain ⟨z, hz, q⟩ := n1 p hp
          obtain ⟨k', h1, h2⟩ := memb z hz
          exact ⟨k', z, h1, h2, q⟩
        · intro p hp
          obtain ⟨z, hz, q⟩ := n2 p hp
          obtain ⟨k', h1, h2⟩ := memb z hz
          exact ⟨k', z, h1, h2, q⟩
      | succ k =>
        obtain ⟨y', b', N', M', D, E, g1, g2, g3, g4, g5, g6, g7⟩ := i2 k z (by simpa using hz)
        refine ⟨y', b', N', M', D, E, g1, g2, g3, ?_, ?_, ?_, ?_⟩
        · intro p hp
          obtain ⟨k', z', h1, h2, q⟩ := g4 p hp
          exact ⟨k' + 1, z', by omega, by simpa using h2, q⟩
        · intro p hp
          obtain ⟨k', z', h1, h2, q⟩ := g5 p hp
          exact ⟨k' + 1, z', by omega, by simpa using h2, q⟩
        · intro p hp
          rcases g6 p hp with hq | ⟨k', z', h1, h2, q⟩
          · rcases List.mem_cons.1 hq with rfl | hq
            · exact .inr ⟨0, x, by omega, rfl, rfl, rfl⟩
            · exact .inl hq
          · exact .inr ⟨k' + 1, z', by omega, by simpa using h2, q⟩
        · intro p hp
          rcases g7 p hp with hq | ⟨k', z', h1, h2, q⟩
          · cases hw : isWr x.o.op with
            | true =>
              rw [hw] at hq
              rcases List.mem_cons.1 hq with rfl | hq
              · exact .inr ⟨0, x, by omega, rfl, rfl, hw⟩
              · exact .inl hq
            | false => rw [hw] at hq; exact .inl hq
          · exact .inr ⟨k' + 1, z', by omega, by simpa using h2, q⟩

/-! ### Looking into such states -/

theorem look_tmpsIn {f g : Nat → Bool} {j : Nat} {T : List (Nat × A)} : ∀ (D : List (Nat × Option Nat × A)), (∀ p, p ∈ D → p.2.1 = some j → f p.1 = g p.1) → look j (tmpsIn f D T) = look j (tmpsIn g D T) := by
  intro D
  induction D with
  | nil => intro _; rfl
  | cons p r ih =>
    obtain ⟨i, d, x⟩ := p
    intro h
    have ih' := ih (fun q hq => h q (.tail _ hq))
    cases d with
    | none => simpa [tmpsIn] using ih'
    | some d =>
      simp only [tmpsIn]
      by_cases hd : d = j
      · subst hd
        have := h _ (.head _) rfl
        simp only at this
        rw [this]
        cases g i with
        | true => simp only [cond_true, look_cons, if_pos]
        | false => simpa using ih'
      · have e : ∀ (c : Bool) T', look j (bif c then (d, x) :: T' else T') = look j T' := fun c T' => by
          cases c
          · rfl
          · simp only [cond_true, look_cons]; rw [if_neg (Ne.symm hd)]
        rw [e, e]; exact ih'

theorem look_tmpsIn_drop {f : Nat → Bool} {j : Nat} {T : List (Nat × A)} {D : List (Nat × Option Nat × A)} : ∀ (N : List (Nat × Option Nat × A)), (∀ p, p ∈ N → p.2.1 = some j → f p.1 = false) → look j (tmpsIn f (N ++ D) T) = look j (tmpsIn f D T) := by
  intro N
  induction N with
  | nil => intro _; rfl
  | cons p r ih =>
    obtain ⟨i, d, x⟩ := p
    intro h
    have ih' := ih (fun q hq => h q (.tail _ hq))
    cases d with
    | none => simpa [tmpsIn] using ih'
    | some d =>
      simp only [List.cons_append, tmpsIn]
      by_cases hd : d = j
      · subst hd
        have := h _ (.head _) rfl
        simp only at this
        rw [this]
        simpa using ih'
      · cases f i with
        | true => simp only [cond_true, look_cons]; rw [if_neg (Ne.symm hd)]; exact ih'
        | false => simpa using ih'

theorem memIn_congr {f g : Nat → Bool} {b : List (Nat × List A)} : ∀ (M : List (Nat × List (Nat × List A))), (∀ p, p ∈ M → f p.1 = g p.1) → memIn f M b = memIn g M b := by
  intro M
  induction M with
  | nil => intro _; rfl
  | cons p r ih =>
    obtain ⟨i, c⟩ := p
    intro h
    have h0 := h _ (.head _)
    simp only at h0
    simp only [memIn, h0, ih (fun q hq => h q (.tail _ hq))]

theorem memIn_drop {f : Nat → Bool} {b : List (Nat × List A)} {E : List (Nat × List (Nat × List A))} : ∀ (M : List (Nat × List (Nat × List A))), (∀ p, p ∈ M → f p.1 = false) → memIn f (M ++ E) b = memIn f E b := by
  intro M
  induction M with
  | nil => intro _; rfl
  | cons p r ih =>
    obtain ⟨i, c⟩ := p
    intro h
    have h0 := h _ (.head _)
    simp only at h0
    simp only [List.cons_append, memIn, h0, cond_false]
    exact ih (fun q hq => h q (.tail _ hq))

theorem tmpsIn_congr {f g : Nat → Bool} {T : List (Nat × A)} : ∀ (D : List (Nat × Option Nat × A)), (∀ p, p ∈ D → f p.1 = g p.1) → tmpsIn f D T = tmpsIn g D T := by
  intro D
  induction D with
  | nil => intro _; rfl
  | cons p r ih =>
    obtain ⟨i, d, x⟩ := p
    intro h
    have h0 := h _ (.head _)
    simp only at h0
    cases d <;> simp only [tmpsIn, h0, ih (fun q hq => h q (.tail _ hq))]

theorem SubB.refl (b : List (Nat × List A)) : SubB b b := fun _ _ h => h
theorem SubB.trans {a b c : List (Nat × List A)} (h : SubB a b) (g : SubB b c) : SubB a c := fun n cs e => g n cs (h n cs e)

end Go.Vx

/- Regions that draw their order: every order ends as the text's order does. -/
namespace Go.Vx
set_option linter.unusedVariables false
set_option linter.unusedSimpArgs false
open Go

theorem RA_undef (σ : Store) (β : Names) : RA σ β (.tup []) undef := .tup [] #[] rfl (by simp)

theorem ra_undef {σ : Store} {β : Names} {v : Value} (h : RA σ β (.tup []) v) : v = undef := by
  cases h with
  | tup _ vs hn _ => have : vs = #[] := by
                      apply Array.eq_empty_of_size_eq_zero; simpa using hn.symm
                     subst this; rfl

section
variable {P : Program} {ows : List (FuncId × Nat)} {ops : Array Oper} {l l2 : List DO} {s : St}

/-- All that is known of a region: of its compiled form, and of its operations. -/
structure Reg (P : Program) (ows : List (FuncId × Nat)) (ops : Array Oper) (s : St) (l l2 : List DO) (done' : List (Nat × Option Nat × A)) (mem' : List (Nat × List (Nat × List A))) : Prop where
  comp : compD P ows s.n ops 0 [] ops.toList = some (l ++ l2)
  ok : okD (l ++ l2) = true
  good : Good P s l [] [] done' mem'

def Closed (l : List DO) (L : Nat → Bool) : Prop := ∀ (k : Nat) (x : DO), l[k]? = some x → L k = true → ∀ j, memN j x.anc = true → L j = true

variable {done' : List (Nat × Option Nat × A)} {mem' : List (Nat × List (Nat × List A))}

theorem Reg.len (h : Reg P ows ops s l l2 done' mem') : (l ++ l2).length = ops.size := by
  have := (compD_facts _ _ _ _ h.comp (fun j A hj => by simp [lookN] at hj)).1
  simpa using this

theorem Reg.fact (h : Reg P ows ops s l l2 done' mem') {i : Nat} {o : Oper} (ho : ops[i]? = some o) : ∃ x, (l ++ l2)[i]? = some x ∧ OpFact P ows s.n ops i o x ∧
    (∀ e, e ∈ o.after → Region.binds .any e = true → e.on < i) ∧
    ∀ j, memN j x.anc = true → j < i ∧ ∃ e, e ∈ o.after ∧ Region.binds .any e = true ∧ (j = e.on ∨ ∃ y, (l ++ l2)[e.on]? = some y ∧ memN j y.anc = true) := by
  obtain ⟨x, h1, h2, h3, h4⟩ := (compD_facts _ _ _ _ h.comp (fun j A hj => by simp [lookN] at hj)).2 i o (by simpa using ho)
  refine ⟨x, h1, by simpa using h2, fun e he hb => by simpa using h3 e he hb, fun j hj => ?_⟩
  obtain ⟨q1, e, he, hb, hq⟩ := h4 j hj
  refine ⟨by simpa using q1, e, he, hb, ?_⟩
  rcases hq with hq | ⟨A, hA, hq | ⟨m', y, e1, e2, e3, e4⟩⟩
  · exact .inl hq
  · simp [lookN] at hq
  · refine .inr ⟨y, ?_, by rw [e4]; exact hA⟩
    have : e.on = m' := by omega
    rw [this]; exact e3

theorem up_l {k : Nat} {x : DO} (hx : l[k]? = some x) : (l ++ l2)[k]? = some x := by
  rw [List.getElem?_append_left (List.getElem?_eq_some_iff.1 hx).1]; exact hx

theorem Closed.left {L : Nat → Bool} (h : Closed (l ++ l2) L) : Closed l L := fun k x hx => h k x (up_l hx)

theorem Reg.ix (h : Reg P ows ops s l l2 done' mem') {k : Nat} {x : DO} (hx : l[k]? = some x) : x.i = k ∧ (∀ j, memN j x.anc = true → j < k) := by
  have hx := up_l (l2 := l2) hx
  have hk : k < ops.size := by rw [← h.len]; exact (List.getElem?_eq_some_iff.1 hx).1
  obtain ⟨o, ho⟩ : ∃ o, ops[k]? = some o := ⟨_, Array.getElem?_eq_getElem hk⟩
  obtain ⟨x', h1, h2, _, h4⟩ := h.fact ho
  rw [hx] at h1; cases h1
  exact ⟨h2.i, fun j hj => (h4 j hj).1⟩

theorem Reg.two (h : Reg P ows ops s l l2 done' mem') {k k' : Nat} {x z : DO} (hx : l[k]? = some x) (hz : l[k']? = some z) (hne : k' ≠ k) : okP x z = true := by
  have h1 := List.all_eq_true.1 h.ok x (List.mem_of_getElem? (up_l hx))
  have h2 := List.all_eq_true.1 h1 z (List.mem_of_getElem? (up_l hz))
  rcases Bool.or_eq_true _ _ ▸ h2 with h2 | h2
  · have := Nat.eq_of_beq_eq_true h2
    rw [(h.ix hx).1, (h.ix hz).1] at this
    exact absurd this.symm hne
  · exact h2

/-- Two operations of which one waits for the other. -/
theorem Reg.ord (h : Reg P ows ops s l l2 done' mem') {L : Nat → Bool} (hc : Closed l L) {k k' : Nat} {x z : DO} (hx : l[k]? = some x) (hz : l[k']? = some z) (hk : L k = false)
    (ha : ∀ j, memN j x.anc = true → L j = true) (ho : memN z.i x.anc = true ∨ memN x.i z.anc = true) : memN k' x.anc = L k' := by
  rw [(h.ix hx).1, (h.ix hz).1] at ho
  rcases ho with ho | ho
  · rw [ho, ha _ ho]
  · have h1 : L k' = false := by
      cases hq : L k' with
      | false => rfl
      | true => have := hc k' z hz hq k ho; rw [hk] at this; cases this
    rw [h1]
    cases hq : memN k' x.anc with
    | false => rfl
    | true =>
      have := (h.ix hx).2 _ hq
      have := (h.ix hz).2 _ ho
      omega

theorem okP_dst {x z : DO} (h : okP x z = true) {d : Nat} (hx : x.o.d = some d) (hz : z.o.d = some d) : False := by
  unfold okP at h
  rw [hx, hz] at h
  simp at h

theorem okP_rest {x z : DO} (h : okP x z = true) : (memN z.i x.anc = true ∨ memN x.i z.anc = true) ∨
    ((∀ e, z.o.d = some e → memN e (opdTs (opdsG x.o)) = false) ∧ ¬ (isWr x.o.op = true ∧ isWr z.o.op = true) ∧ ¬ (isCa x.o.op = true ∧ isWr z.o.op = true) ∧
      ¬ (isLd x.o.op = true ∧ isWr z.o.op = true ∧ isAl z.o.op = false)) := by
  unfold okP at h
  rw [Bool.and_eq_true] at h
  have h2 := h.2
  rw [Bool.or_eq_true, Bool.or_eq_true] at h2
  rcases h2 with h2 | h2
  · exact .inl h2
  · right
    simp only [Bool.and_eq_true, Bool.not_eq_true', Bool.and_eq_false_iff] at h2
    obtain ⟨⟨⟨q1, q2⟩, q3⟩, q4⟩ := h2
    refine ⟨?_, ?_, ?_, ?_⟩
    · intro e he
      rw [he] at q1
      simpa using q1
    · rintro ⟨a, b⟩
      rcases q2 with q | q
      · rw [a] at q; cases q
      · rw [b] at q; cases q
    · rintro ⟨a, b⟩
      rcases q3 with q | q
      · rw [a] at q; cases q
      · rw [b] at q; cases q
    · rintro ⟨a, b, c⟩
      rw [a, b, c] at q4
      simp at q4

theorem mem_opdTs {t : Nat} : ∀ {l : List Opd}, Opd.t t ∈ l → memN t (opdTs l) = true := by
  intro l
  induction l with
  | nil => intro h; cases h
  | cons x r ih =>
    intro h
    rcases List.mem_cons.1 h with h1 | h1
    · subst h1; simp [opdTs, memN_cons]
    · have := ih h1
      cases x with
      | t i => simp [opdTs, memN_cons, this]
      | c a => simp [opdTs, this]

/-- The writers, each behind all the earlier ones. -/
inductive ChainM (s : St) (l : List DO) : List (Nat × List (Nat × List A)) → Prop
  | nil : ChainM s l []
  | cons (k : Nat) (z : DO) (b rest) (hz : l[k]? = some z) (hw : isWr z.o.op = true) (ha : isAl z.o.op = true → SubB (memIn (fun _ => true) rest s.bx) b) (hb : ∀ q, q ∈ rest → memN q.1 z.anc = true)
      (hr : ChainM s l rest) : ChainM s l ((k, b) :: rest)

theorem good_chain (h : Reg P ows ops s l l2 done' mem') : ∀ (r : List DO) (done : List (Nat × Option Nat × A)) (mem : List (Nat × List (Nat × List A))) (d2 : List (Nat × Option Nat × A)) (m2 : List (Nat × List (Nat × List A))), Good P s r done mem d2 m2 →
    ∀ k, r = l.drop k → ChainM s l mem → (∀ p, p ∈ mem → ∃ (k' : Nat) (z : DO), k' < k ∧ l[k']? = some z ∧ p.1 = z.i ∧ isWr z.o.op = true) → ChainM s l m2 := by
  intro r done mem d2 m2 hg
  induction hg with
  | nil => intro k _ hc _; exact hc
  | cons x r y b done mem d2 m2 hf hg ih =>
    intro k hk hc hm
    have hx : l[k]? = some x := by
      have : (l.drop k)[0]? = some x := by rw [← hk]; rfl
      simpa using this
    have hk' : r = l.drop (k + 1) := by
      have : (x :: r).tail = (l.drop k).tail := by rw [hk]
      simpa using this
    have e : memIn (memN · x.anc) mem s.bx = memIn (fun _ => true) mem s.bx ∨ isWr x.o.op = false := by
      cases hw : isWr x.o.op with
      | false => exact .inr rfl
      | true =>
        left
        refine memIn_congr _ (fun p hp => ?_)
        obtain ⟨k', z, h1, h2, h3, h4⟩ := hm p hp
        rcases okP_rest (h.two hx h2 (by omega)) with (q | q) | q
        · rw [h3, q]
        · rw [(h.ix hx).1] at q; have := (h.ix h2).2 _ q; omega
        · exact absurd ⟨hw, h4⟩ q.2.1
    refine ih (k + 1) hk' ?_ ?_
    · cases hw : isWr x.o.op with
      | false => exact hc
      | true =>
        have e' : memIn (memN · x.anc) mem s.bx = memIn (fun _ => true) mem s.bx := by
          rcases e with e | e
          · exact e
          · rw [hw] at e; cases e
        show ChainM s l ((x.i, b) :: mem)
        rw [(h.ix hx).1]
        refine .cons k x b mem hx hw (fun ha => ?_) (fun q hq => ?_) hc
        · rw [← e']; exact hf.al ha
        · obtain ⟨k', z, h1, h2, h3, h4⟩ := hm q hq
          rcases okP_rest (h.two hx h2 (by omega)) with (p | p) | p
          · rw [h3, p]
          · rw [(h.ix hx).1] at p; have := (h.ix h2).2 _ p; omega
          · exact absurd ⟨hw, h4⟩ p.2.1
    · intro p hp
      cases hw : isWr x.o.op with
      | false =>
        rw [hw] at hp
        obtain ⟨k', z, h1, q⟩ := hm p hp
        exact ⟨k', z, by omega, q⟩
      | true =>
        rw [hw] at hp
        rcases List.mem_cons.1 hp with rfl | hp
        · exact ⟨k, x, by omega, hx, rfl, hw⟩
        · obtain ⟨k', z, h1, q⟩ := hm p hp
          exact ⟨k', z, by omega, q⟩

theorem sub_chain {L f : Nat → Bool} (hc : Closed l L) (hf : ∀ j, f j = true → L j = true) : ∀ (m : List (Nat × List (Nat × List A))), ChainM s l m →
    (∀ p, p ∈ m → f p.1 = L p.1 ∨ ∃ (z : DO), l[p.1]? = some z ∧ isAl z.o.op = true) → SubB (memIn f m s.bx) (memIn L m s.bx) := by
  intro m hm
  induction hm with
  | nil => intro _; exact SubB.refl _
  | cons k z b rest hz hw ha hb hr ih =>
    intro hp
    have ih' := ih (fun p h => hp p (.tail _ h))
    simp only [memIn]
    cases h1 : f k with
    | true => rw [hf _ h1]; exact SubB.refl _
    | false =>
      cases h2 : L k with
      | false => exact ih'
      | true =>
        simp only [cond_false, cond_true]
        rcases hp _ (.head _) with h | ⟨z', hz', hal⟩
        · simp only at h; rw [h1, h2] at h; cases h
        · rw [hz] at hz'; cases hz'
          refine ih'.trans ?_
          have : memIn L rest s.bx = memIn (fun _ => true) rest s.bx := memIn_congr _ (fun q hq => hc k z hz h2 _ (hb q hq))
          rw [this]
          exact ha hal

/-- An operation that comes up does what it does in the order of the text. -/
theorem Reg.same (h : Reg P ows ops s l l2 done' mem') {L : Nat → Bool} (hc : Closed l L) {k : Nat} {x : DO} (hx : l[k]? = some x) (hk : L k = false)
    (ha : ∀ j, memN j x.anc = true → L j = true) {y : A} {b : List (Nat × List A)} {N D : List (Nat × Option Nat × A)} {M E : List (Nat × List (Nat × List A))} (e1 : done' = N ++ (x.i, x.o.d, y) :: D) (e2 : mem' = M ++ (bif isWr x.o.op then (x.i, b) :: E else E))
    (n1 : ∀ p, p ∈ N → ∃ (k' : Nat) (z : DO), k < k' ∧ l[k']? = some z ∧ p.1 = z.i ∧ p.2.1 = z.o.d) (n2 : ∀ p, p ∈ M → ∃ (k' : Nat) (z : DO), k < k' ∧ l[k']? = some z ∧ p.1 = z.i ∧ isWr z.o.op = true)
    (n3 : ∀ p, p ∈ D → ∃ (k' : Nat) (z : DO), k' < k ∧ l[k']? = some z ∧ p.1 = z.i ∧ p.2.1 = z.o.d) (n4 : ∀ p, p ∈ E → ∃ (k' : Nat) (z : DO), k' < k ∧ l[k']? = some z ∧ p.1 = z.i ∧ isWr z.o.op = true) :
    SameG x.o (locS s x D E) (stL s L done' mem') := by
  have hself : memN k x.anc = false := by
    cases hq : memN k x.anc with
    | false => rfl
    | true => have := (h.ix hx).2 _ hq; omega
  have late : ∀ (k' : Nat), k ≤ k' → memN k' x.anc = false := fun k' hk' => by
    cases hq : memN k' x.anc with
    | false => rfl
    | true => have := (h.ix hx).2 _ hq; omega
  have ev : ∀ o, o ∈ opdsG x.o → (stL s L done' mem').ev o = (locS s x D E).ev o := by
    intro o ho
    cases o with
    | c a => rfl
    | t t =>
      have ht := mem_opdTs ho
      show look t (tmpsIn L done' s.t) = look t (tmpsIn (memN · x.anc) D s.t)
      have one : ∀ (k' : Nat) (z : DO), l[k']? = some z → k' ≠ k → z.o.d = some t → memN k' x.anc = L k' := by
        intro k' z hz hne hd
        rcases okP_rest (h.two hx hz hne) with q | q
        · exact h.ord hc hx hz hk ha q
        · have := q.1 t hd; rw [ht] at this; cases this
      have e3 : look t (tmpsIn L done' s.t) = look t (tmpsIn (memN · x.anc) done' s.t) := by
        refine look_tmpsIn _ (fun p hp hd => ?_)
        rw [e1] at hp
        rcases List.mem_append.1 hp with hp | hp
        · obtain ⟨k', z, g1, g2, g3, g4⟩ := n1 p hp
          rw [g3, (h.ix g2).1]
          exact (one k' z g2 (by omega) (g4 ▸ hd)).symm
        · rcases List.mem_cons.1 hp with rfl | hp
          · show L x.i = memN x.i x.anc
            rw [(h.ix hx).1, hk, hself]
          · obtain ⟨k', z, g1, g2, g3, g4⟩ := n3 p hp
            rw [g3, (h.ix g2).1]
            exact (one k' z g2 (by omega) (g4 ▸ hd)).symm
      rw [e3, e1]
      have e4 : N ++ (x.i, x.o.d, y) :: D = (N ++ [(x.i, x.o.d, y)]) ++ D := by simp
      rw [e4]
      refine look_tmpsIn_drop _ (fun p hp _ => ?_)
      rcases List.mem_append.1 hp with hp | hp
      · obtain ⟨k', z, g1, g2, g3, g4⟩ := n1 p hp
        rw [g3, (h.ix g2).1]
        exact late k' (by omega)
      · simp only [List.mem_singleton] at hp; subst hp
        show memN x.i x.anc = false
        rw [(h.ix hx).1, hself]
  refine ⟨⟨rfl, rfl, fun o ho => ev o (List.mem_append_right _ ho), ?_, ?_⟩, fun j w hg => ev (.t j) (List.mem_append_left _ (by rw [hg]; exact .head _))⟩
  · intro hw
    show memIn L mem' s.bx = memIn (memN · x.anc) E s.bx
    have one : ∀ (k' : Nat) (z : DO), l[k']? = some z → k' ≠ k → isWr z.o.op = true → memN k' x.anc = L k' := by
      intro k' z hz hne hd
      rcases okP_rest (h.two hx hz hne) with q | q
      · exact h.ord hc hx hz hk ha q
      · rcases hw with hw | hw
        · exact absurd ⟨hw, hd⟩ q.2.1
        · exact absurd ⟨hw, hd⟩ q.2.2.1
    have e3 : memIn L mem' s.bx = memIn (memN · x.anc) mem' s.bx := by
      refine memIn_congr _ (fun p hp => ?_)
      rw [e2] at hp
      have lo : ∀ p, p ∈ E → L p.1 = memN p.1 x.anc := fun p hp => by
        obtain ⟨k', z, g1, g2, g3, g4⟩ := n4 p hp
        rw [g3, (h.ix g2).1]
        exact (one k' z g2 (by omega) g4).symm
      rcases List.mem_append.1 hp with hp | hp
      · obtain ⟨k', z, g1, g2, g3, g4⟩ := n2 p hp
        rw [g3, (h.ix g2).1]
        exact (one k' z g2 (by omega) g4).symm
      · cases hq : isWr x.o.op with
        | false => rw [hq] at hp; exact lo p hp
        | true =>
          rw [hq] at hp
          rcases List.mem_cons.1 hp with rfl | hp
          · show L x.i = memN x.i x.anc
            rw [(h.ix hx).1, hk, hself]
          · exact lo p hp
    rw [e3, e2, memIn_drop _ (fun p hp => by
      obtain ⟨k', z, g1, g2, g3, g4⟩ := n2 p hp
      rw [g3, (h.ix g2).1]
      exact late k' (by omega))]
    cases hq : isWr x.o.op with
    | false => rfl
    | true =>
      simp only [cond_true, memIn]
      rw [(h.ix hx).1, hself]
      rfl
  · intro hl
    show SubB (memIn (memN · x.anc) E s.bx) (memIn L mem' s.bx)
    have hnw : isWr x.o.op = false := by
      cases hq : x.o.op with
      | call => rfl
      | callv => rfl
      | op a => rw [hq] at hl; cases a <;> first | rfl | simp [isLd] at hl
    have ch := good_chain h _ _ _ _ _ h.good 0 (by simp) .nil (fun p hp => by cases hp)
    have one : ∀ (k' : Nat) (z : DO), l[k']? = some z → k' ≠ k → isWr z.o.op = true → memN k' x.anc = L k' ∨ isAl z.o.op = true := by
      intro k' z hz hne hd
      rcases okP_rest (h.two hx hz hne) with q | q
      · exact .inl (h.ord hc hx hz hk ha q)
      · right
        cases hq : isAl z.o.op with
        | true => rfl
        | false => exact absurd ⟨hl, hd, hq⟩ q.2.2.2
    have := sub_chain (f := (memN · x.anc)) hc ha mem' ch (fun p hp => by
      have use : ∀ (k' : Nat) (z : DO), l[k']? = some z → k' ≠ k → p.1 = z.i → isWr z.o.op = true → memN p.1 x.anc = L p.1 ∨ ∃ (z : DO), l[p.1]? = some z ∧ isAl z.o.op = true := by
        intro k' z hz hne hp hw
        rw [hp, (h.ix hz).1]
        rcases one k' z hz hne hw with q | q
        · exact .inl q
        · exact .inr ⟨z, hz, q⟩
      rw [e2, hnw] at hp
      rcases List.mem_append.1 hp with hp | hp
      · obtain ⟨k', z, g1, g2, g3, g4⟩ := n2 p hp
        exact use k' z g2 (by omega) g3 g4
      · obtain ⟨k', z, g1, g2, g3, g4⟩ := n4 p hp
        exact use k' z g2 (by omega) g3 g4)
    have e3 : memIn (memN · x.anc) mem' s.bx = memIn (memN · x.anc) E s.bx := by
      rw [e2, hnw]
      exact memIn_drop _ (fun p hp => by
        obtain ⟨k', z, g1, g2, g3, g4⟩ := n2 p hp
        rw [g3, (h.ix g2).1]
        exact late k' (by omega))
    rw [← e3]
    exact this

/-- The lists behind it. -/
theorem Reg.step (h : Reg P ows ops s l l2 done' mem') {L L' : Nat → Bool} (hc : Closed l L) {k : Nat} {x : DO} (hx : l[k]? = some x) (hk : L k = false) (hL : ∀ j, L' j = if j = k then true else L j)
    {y : A} {b : List (Nat × List A)} {N D : List (Nat × Option Nat × A)} {M E : List (Nat × List (Nat × List A))} (e1 : done' = N ++ (x.i, x.o.d, y) :: D) (e2 : mem' = M ++ (bif isWr x.o.op then (x.i, b) :: E else E))
    (n1 : ∀ p, p ∈ N → ∃ (k' : Nat) (z : DO), k < k' ∧ l[k']? = some z ∧ p.1 = z.i ∧ p.2.1 = z.o.d) (n2 : ∀ p, p ∈ M → ∃ (k' : Nat) (z : DO), k < k' ∧ l[k']? = some z ∧ p.1 = z.i ∧ isWr z.o.op = true)
    (n3 : ∀ p, p ∈ D → ∃ (k' : Nat) (z : DO), k' < k ∧ l[k']? = some z ∧ p.1 = z.i ∧ p.2.1 = z.o.d) (n4 : ∀ p, p ∈ E → ∃ (k' : Nat) (z : DO), k' < k ∧ l[k']? = some z ∧ p.1 = z.i ∧ isWr z.o.op = true)
    {u : St} (hu : Behind x.o.op x.o.d y b (stL s L done' mem') u) : (stL s L' done' mem').bx = u.bx ∧ ∀ j, look j (stL s L' done' mem').t = look j u.t := by
  have hL1 : ∀ (k' : Nat), k' ≠ k → L' k' = L k' := fun k' hne => by rw [hL, if_neg hne]
  have hLk : L' k = true := by rw [hL, if_pos rfl]
  constructor
  · rw [hu.1]
    show memIn L' mem' s.bx = bif isWr x.o.op then b else memIn L mem' s.bx
    cases hq : isWr x.o.op with
    | true =>
      rw [e2, hq, memIn_drop _ (fun p hp => by
        obtain ⟨k', z, g1, g2, g3, g4⟩ := n2 p hp
        rw [g3, (h.ix g2).1, hL1 k' (by omega)]
        rcases okP_rest (h.two hx g2 (by omega)) with (q | q) | q
        · rw [(h.ix g2).1] at q; have := (h.ix hx).2 _ q; omega
        · rw [(h.ix hx).1] at q
          cases hq' : L k' with
          | false => rfl
          | true => have := hc k' z g2 hq' _ q; rw [hk] at this; cases this
        · exact absurd ⟨hq, g4⟩ q.2.1)]
      simp only [cond_true, memIn]
      rw [(h.ix hx).1, hLk]
      rfl
    | false =>
      refine memIn_congr _ (fun p hp => ?_)
      rw [e2, hq] at hp
      rcases List.mem_append.1 hp with hp | hp
      · obtain ⟨k', z, g1, g2, g3, g4⟩ := n2 p hp
        rw [g3, (h.ix g2).1, hL1 k' (by omega)]
      · obtain ⟨k', z, g1, g2, g3, g4⟩ := n4 p hp
        rw [g3, (h.ix g2).1, hL1 k' (by omega)]
  · intro j
    rw [hu.2 j]
    show look j (tmpsIn L' done' s.t) = if x.o.d = some j then y else look j (tmpsIn L done' s.t)
    by_cases hd : x.o.d = some j
    · rw [if_pos hd, e1, look_tmpsIn_drop _ (fun p hp hpd => by
        obtain ⟨k', z, g1, g2, g3, g4⟩ := n1 p hp
        exact (okP_dst (h.two hx g2 (by omega)) hd (g4 ▸ hpd)).elim)]
      rw [hd]
      simp only [tmpsIn]
      rw [(h.ix hx).1, hLk]
      simp only [cond_true, look_cons, if_pos]
    · rw [if_neg hd]
      refine look_tmpsIn _ (fun p hp hpd => ?_)
      rw [e1] at hp
      rcases List.mem_append.1 hp with hp | hp
      · obtain ⟨k', z, g1, g2, g3, g4⟩ := n1 p hp
        rw [g3, (h.ix g2).1, hL1 k' (by omega)]
      · rcases List.mem_cons.1 hp with rfl | hp
        · exact absurd hpd hd
        · obtain ⟨k', z, g1, g2, g3, g4⟩ := n3 p hp
          rw [g3, (h.ix g2).1, hL1 k' (by omega)]

variable {X : Ctx} {σ : Store} {β : Names} {a : Act} {w : World}

/-- The invariant of whatever order. -/
structure Inv (l l2 : List DO) (ops : Array Oper) (s : St) (done' : List (Nat × Option Nat × A)) (mem' : List (Nat × List (Nat × List A))) (X : Ctx) (σ : Store) (β : Names) (w0 : World) (listed : Array Bool) (a : Act) (w : World) : Prop where
  size : listed.size = ops.size
  closed : Closed (l ++ l2) (fun i => listed.getD i false)
  rel : ∃ σ' β', Rel X σ' β' (stL s (fun i => listed.getD i false) done' mem') a w ∧ Step X s.k σ β w0 σ' β' w

theorem dst_lt {N : Nat} {o : Oper} (h : dstOk N o = true) : (∀ i, o.dst = some i → i < N) ∧ ∀ t x v, o.op = .store t x v → o.dst = none := by
  unfold dstOk at h
  split at h
  · rename_i d hd
    simp only [Bool.and_eq_true, decide_eq_true_eq, Bool.not_eq_true'] at h
    refine ⟨fun i hi => ?_, fun t x v hs => ?_⟩
    · rw [hd] at hi; cases hi; exact h.1
    · rw [hs] at h; simp [isStore] at h
  · rename_i hd
    exact ⟨fun i hi => (by rw [hd] at hi; cases hi), fun _ _ _ _ => hd⟩

theorem Inv.one (h : Reg P ows ops s l l2 done' mem') {w0 : World} {listed : Array Bool} (inv : Inv l l2 ops s done' mem' X σ β w0 listed a w) {i : Nat} (hil : i < l.length) (hi : i ∈ Region.ready .any ops listed) {Q : Exit → Act → World → Prop} :
    wpOp P ops Q i (fun a' w' => Inv l l2 ops s done' mem' X σ β w0 (listed.setIfInBounds i true) a' w') a w := by
  obtain ⟨hun, o, ho, hall⟩ := mem_ready.1 hi
  obtain ⟨x, hxm, hf, h1, h2⟩ := h.fact ho
  have hx : l[i]? = some x := by rw [List.getElem?_append_left hil] at hxm; exact hxm
  have hk : listed.getD i false = false := getD_both hun
  have hisz : i < listed.size := by
    rw [inv.size]; exact (Array.getElem?_eq_some_iff.1 ho).1
  have ha : ∀ j, memN j x.anc = true → listed.getD j false = true := by
    intro j hj
    obtain ⟨_, e, he, hb, hq⟩ := h2 j hj
    rcases hq with rfl | ⟨y, hy, hj'⟩
    · exact hall e he hb
    · exact inv.closed _ y hy (hall e he hb) j hj'
  obtain ⟨_, hgood⟩ := good_at _ _ _ _ _ h.good
  obtain ⟨y, b, N, M, D, E, g1, e1, e2, n1, n2, n3, n4⟩ := hgood i x hx
  have n3' : ∀ p, p ∈ D → ∃ (k' : Nat) (z : DO), k' < i ∧ l[k']? = some z ∧ p.1 = z.i ∧ p.2.1 = z.o.d := fun p hp => by
    rcases n3 p hp with q | q
    · cases q
    · exact q
  have n4' : ∀ p, p ∈ E → ∃ (k' : Nat) (z : DO), k' < i ∧ l[k']? = some z ∧ p.1 = z.i ∧ isWr z.o.op = true := fun p hp => by
    rcases n4 p hp with q | q
    · cases q
    · exact q
  have hsame := h.same inv.closed.left hx hk ha e1 e2 n1 n2 n3' n4'
  have hv := g1.run _ hsame
  obtain ⟨σ1, β1, hR, hS⟩ := inv.rel
  obtain ⟨hd, hst⟩ := dst_lt hf.ok
  -- behind it
  have next : ∀ (a' : Act) (w' : World) (u : St) (σ2 : Store) (β2 : Names), Behind x.o.op x.o.d y b (stL s (fun i => listed.getD i false) done' mem') u → u.n = s.n → Rel X σ2 β2 u a' w' → Step X s.k σ1 β1 w σ2 β2 w' →
      Inv l l2 ops s done' mem' X σ β w0 (listed.setIfInBounds i true) a' w' := by
    intro a' w' u σ2 β2 hu hn hR2 hS2
    have hL : ∀ j, (listed.setIfInBounds i true).getD j false = if j = i then true else listed.getD j false := by
      intro j
      by_cases hj : j = i
      · subst hj; simp [hisz]
      · rw [if_neg hj, getD_set_ne false (Ne.symm hj)]
    obtain ⟨b1, b2⟩ := h.step (L' := fun j => (listed.setIfInBounds i true).getD j false) inv.closed.left hx hk hL e1 e2 n1 n2 n3' n4' hu
    refine ⟨by simp [inv.size], ?_, σ2, β2, ?_, hS.trans hS2⟩
    · intro k' z hz hl j hj
      simp only [hL] at hl ⊢
      by_cases hki : k' = i
      · subst hki
        rw [hxm] at hz; cases hz
        split
        · rfl
        · exact ha j hj
      · rw [if_neg hki] at hl
        split
        · rfl
        · exact inv.closed k' z hz hl j hj
    · exact hR2.sub hn.symm b1 (fun j => .inr (b2 j)) (fun p hp => by cases hp)
  -- carried out
  have run : vcOne P ⟨x.o.d, none, x.o.op⟩ (stL s (fun i => listed.getD i false) done' mem') (Behind x.o.op x.o.d y b (stL s (fun i => listed.getD i false) done' mem')) (fun _ _ => False) →
      o.wp P a w (fun a' w' => Inv l l2 ops s done' mem' X σ β w0 (listed.setIfInBounds i true) a' w') Q := by
    intro hv
    refine upon_mono (one_sound (g := none) hf.c hR (fun j hj => hd j hj) hst (by rw [hf.d] at hv; exact hv)) ?_ ?_
    · rintro a' w' ⟨u, σ2, β2, hu, hn, hkk, hR2, hS2⟩
      exact next a' w' u σ2 β2 (by rw [← hf.d] at hu; exact hu) hn hR2 hS2
    · rintro e a' w' ⟨_, _, _, _, _, _, _, hq, _⟩
      exact hq.elim
  have skip : Behind x.o.op x.o.d y b (stL s (fun i => listed.getD i false) done' mem') ((stL s (fun i => listed.getD i false) done' mem').setd x.o.d (.tup [])) →
      Inv l l2 ops s done' mem' X σ β w0 (listed.setIfInBounds i true) (a.put o.dst undef) w := by
    intro hv
    rw [hf.d] at hv
    exact next _ _ _ _ _ (by rw [hf.d]; exact hv) (by rw [setd_n]; rfl) (hR.setd (d := o.dst) (fun i hi => hd i hi) (.tup [] #[] rfl (by simp))) (Step.refl _ _ _ _ _)
  unfold wpOp
  rw [ho]
  simp only
  have hg := hf.g
  cases hgd : o.guard with
  | none =>
    rw [hgd] at hg
    simp only [compG, Option.some.injEq] at hg
    have hw : Region.wanted o (yielded ops a.tmps) = true := by simp [Region.wanted, hgd]
    simp only [hw, if_true]
    left
    refine run ?_
    unfold vcOneG at hv
    rw [← hg] at hv
    exact hv
  | some jw =>
    obtain ⟨j, want⟩ := jw
    rw [hgd] at hg
    simp only [compG] at hg
    split at hg
    · rename_i dj hdj
      simp only [Option.some.injEq] at hg
      unfold vcOneG at hv
      rw [← hg] at hv
      simp only at hv
      split at hv
      · rename_i c hlk
        have hRA := hR.tmp dj
        rw [hlk] at hRA
        have hval := ra_bool hRA
        have hy : yielded ops a.tmps j = some c := by
          unfold yielded
          rw [hdj]
          simp only [Option.bind_some]
          rw [Array.getD_eq_getD_getElem?] at hval
          cases hq : a.tmps[dj]? with
          | none => rw [hq] at hval; simp [undef] at hval
          | some u => rw [hq] at hval; simp only [Option.getD_some] at hval; rw [hval]
        have hw : Region.wanted o (yielded ops a.tmps) = (c == want) := by
          simp only [Region.wanted, hgd, hy]
          cases c <;> cases want <;> rfl
        by_cases hcw : c = want
        · rw [if_pos (by rw [hw]; simpa using hcw)]
          exact .inl (run (hv.1 hcw))
        · have hcn : c = !want := by cases c <;> cases want <;> simp_all
          rw [if_neg (by rw [hw]; simpa using hcw)]
          exact skip (hv.2 hcn)
      · rename_i hlk
        have hRA := hR.tmp dj
        rw [hlk] at hRA
        have hval : a.tmps.getD dj undef = undef := ra_undef hRA
        have hy : yielded ops a.tmps j = none := by
          unfold yielded
          rw [hdj]
          simp only [Option.bind_some]
          rw [Array.getD_eq_getD_getElem?] at hval
          cases hq : a.tmps[dj]? with
          | none => rfl
          | some u => rw [hq] at hval; simp only [Option.getD_some] at hval; rw [hval]; rfl
        have hw : Region.wanted o (yielded ops a.tmps) = false := by
          simp only [Region.wanted, hgd, hy]
          cases want <;> rfl
        rw [if_neg (by rw [hw]; simp)]
        exact skip hv
      · exact hv.elim
    · cases hg

theorem count_set {listed : Array Bool} {i : Nat} (h : listed.getD i true = false) : listed.toList.count false = (listed.setIfInBounds i true).toList.count false + 1 := by
  have hi : i < listed.size := by
    rcases Nat.lt_or_ge i listed.size with h' | h'
    · exact h'
    · simp [Array.getElem?_eq_none h'] at h
  have hv : listed.toList[i]'(by simpa using hi) = false := by simpa [hi] using h
  rw [Array.toList_setIfInBounds, List.count_set (by simpa using hi), hv]
  have h0 : 0 < listed.toList.count false := List.count_pos_iff.2 (hv ▸ List.getElem_mem _)
  have e1 : ((false == false) = true) := rfl
  have e2 : ¬ ((true == false) = true) := by decide
  rw [if_pos e1, if_neg e2]
  omega

theorem all_of_ready (h : Reg P ows ops s l l2 done' mem') {listed : Array Bool} (hs : listed.size = ops.size) (hr : Region.ready .any ops listed = []) : ∀ i, i < ops.size → listed.getD i false = true := by
  intro i
  induction i using Nat.strongRecOn with
  | ind i ih =>
    intro hi
    cases hq : listed.getD i false with
    | true => rfl
    | false =>
      obtain ⟨o, ho⟩ : ∃ o, ops[i]? = some o := ⟨_, Array.getElem?_eq_getElem hi⟩
      obtain ⟨x, hx, hf, h1, h2⟩ := h.fact ho
      have : i ∈ Region.ready .any ops listed := mem_ready.2 ⟨getD_in (by omega) hq, o, ho, fun e he hb => ih e.on (h1 e he hb) (by have := h1 e he hb; omega)⟩
      rw [hr] at this
      cases this

theorem Inv.done (h : Reg P ows ops s l l2 done' mem') {w0 : World} {listed : Array Bool} (inv : Inv l l2 ops s done' mem' X σ β w0 listed a w) (hall : ∀ i, i < l.length → listed.getD i false = true) {Q : AX → St → Prop}
    (hq : Q .normal (stL s (fun _ => true) done' mem')) : Post Q X s.n s.k σ β w0 .normal a w := by
  obtain ⟨σ', β', hR, hS⟩ := inv.rel
  obtain ⟨⟨N, M, e1, e2, n1, n2⟩, _⟩ := good_at _ _ _ _ _ h.good
  have hlt : ∀ z, z ∈ l → z.i < l.length := fun z hz => by
    obtain ⟨k, hk⟩ := List.mem_iff_getElem?.1 hz
    rw [(h.ix hk).1]
    exact (List.getElem?_eq_some_iff.1 hk).1
  have e : stL s (fun i => listed.getD i false) done' mem' = stL s (fun _ => true) done' mem' := by
    unfold stL
    have t1 : tmpsIn (fun i => listed.getD i false) done' s.t = tmpsIn (fun _ => true) done' s.t := tmpsIn_congr _ (fun p hp => by
      rw [e1] at hp
      obtain ⟨z, hz, q, _⟩ := n1 p (by simpa using hp)
      rw [q]; exact hall _ (hlt z hz))
    have t2 : memIn (fun i => listed.getD i false) mem' s.bx = memIn (fun _ => true) mem' s.bx := memIn_congr _ (fun p hp => by
      rw [e2] at hp
      obtain ⟨z, hz, q, _⟩ := n2 p (by simpa using hp)
      rw [q]; exact hall _ (hlt z hz))
    rw [t1, t2]
  rw [e] at hR
  exact ⟨.normal, _, σ', β', hq, rfl, rfl, trivial, hR, hS⟩

theorem any_order (h : Reg P ows ops s l [] done' mem') {w0 : World} {Q : AX → St → Prop} (hq : Q .normal (stL s (fun _ => true) done' mem')) :
    ∀ (fuel : Nat) (listed : Array Bool) (a : Act) (w : World), listed.toList.count false = fuel → Inv l [] ops s done' mem' X σ β w0 listed a w →
      wpAny P .any ops (Post Q X s.n s.k σ β w0) fuel listed a w := by
  have hlen : l.length = ops.size := by have := h.len; simpa using this
  intro fuel
  induction fuel with
  | zero =>
    intro listed a w hc inv
    have hall : ∀ i, i < ops.size → listed.getD i false = true := by
      intro i hi
      have hi' : i < listed.size := by rw [inv.size]; exact hi
      cases hq : listed.getD i false with
      | true => rfl
      | false =>
        have hv : listed.toList[i]'(by simpa using hi') = false := by simpa [hi'] using hq
        have : 0 < listed.toList.count false := List.count_pos_iff.2 (hv ▸ List.getElem_mem _)
        omega
    refine ⟨?_, inv.done h (fun i hi => hall i (by rw [← hlen]; exact hi)) hq⟩
    cases hr : Region.ready .any ops listed with
    | nil => rfl
    | cons i r =>
      have hi : i ∈ Region.ready .any ops listed := by rw [hr]; exact .head _
      obtain ⟨hun, o, ho, _⟩ := mem_ready.1 hi
      have := hall i (Array.getElem?_eq_some_iff.1 ho).1
      rw [getD_both hun] at this
      cases this
  | succ fuel ih =>
    intro listed a w hc inv
    refine ⟨fun hr => inv.done h (fun i hi => all_of_ready h inv.size hr i (by rw [← hlen]; exact hi)) hq, fun i hi => ?_⟩
    refine wpOp_mono (fun a' w' inv' => ih _ a' w' ?_ inv') (inv.one h (by rw [hlen]; exact (Array.getElem?_eq_some_iff.1 (mem_ready.1 hi).2.choose_spec.1).1) hi)
    have := count_set (mem_ready.1 hi).1
    omega

/-- **ONE WALK OF THE ORDER OF THE TEXT SERVES EVERY ORDER.** -/
theorem draw_sound {id : Nat} {Q : AX → St → Prop} (hm : P.follows .mixedOrders = true) (hc : compD P ows s.n ops 0 [] ops.toList = some l) (ho : okD l = true)
    (hv : vcD P s l [] [] (Q .normal)) : Tr P (.region id ops true) s Q := by
  intro X σ β a w hr
  obtain ⟨done', mem', hg, hK⟩ := good_of_vcD l [] [] hv
  have h : Reg P ows ops s l [] done' mem' := ⟨by simpa using hc, by simpa using ho, hg⟩
  refine wp_region_any hm (any_order h hK _ _ _ _ (by simp) ?_)
  have hnone : ∀ i, (Array.replicate ops.size false).getD i false = false := getD_replicate_false _
  refine ⟨by simp, fun k x _ hl => (by have hl := (hnone k).symm.trans hl; cases hl), σ, β, ?_, ?_⟩
  · have hr' := hr.heapEq (w' := { w with drawn := w.drawn + 1 }) rfl
    refine hr'.sub rfl ?_ (fun i => .inr ?_) (fun p hp => by cases hp)
    · show memIn _ mem' s.bx = s.bx
      have : ∀ (m : List (Nat × List (Nat × List A))), memIn (fun i => (Array.replicate ops.size false).getD i false) m s.bx = s.bx := by
        intro m
        induction m with
        | nil => rfl
        | cons p r ih => obtain ⟨q, c⟩ := p; simp only [memIn, hnone, cond_false]; simpa only [hnone] using ih
      exact this mem'
    · show look i (tmpsIn _ done' s.t) = look i s.t
      have : ∀ (m : List (Nat × Option Nat × A)), tmpsIn (fun i => (Array.replicate ops.size false).getD i false) m s.t = s.t := by
        intro m
        induction m with
        | nil => rfl
        | cons p r ih =>
          obtain ⟨q, d, c⟩ := p
          cases d with
          | none => exact ih
          | some d => simp only [tmpsIn, hnone, cond_false]; simpa only [hnone] using ih
      rw [this done']
  · exact Step.heapEq X s.k σ β rfl rfl rfl rfl

end
end Go.Vx

/- Conditions for regions, code and functions; their soundness. -/
namespace Go.Vx
set_option linter.unusedVariables false
set_option linter.unusedSimpArgs false
open Go

/-! ### A region that draws its order, carried out in one order -/

/-- In the order in which it stands. -/
def vcDS (P : Program) : List DO → St → (St → Prop) → Prop
  | [], s, K => K { s with own := [] }
  | x :: r, s, K => vcDg P x.o { s with own := [] } (fun y b => vcDS P r { s with t := (match x.o.d with | some d => (d, y) :: s.t | none => s.t), bx := (bif isWr x.o.op then b else s.bx), own := [] } K)

/-- The earlier ones, with what they yielded. -/
inductive Pre : List DO → List (Nat × Option Nat × A) → List (Nat × List (Nat × List A)) → Prop
  | nil : Pre [] [] []
  | cons (x : DO) (y : A) (b : List (Nat × List A)) {pre done mem} (h : Pre pre done mem) : Pre (x :: pre) ((x.i, x.o.d, y) :: done) (bif isWr x.o.op then (x.i, b) :: mem else mem)

theorem look_tmpsPre {f : Nat → Bool} {e : Nat} {t : List (Nat × A)} {pre done mem} (h : Pre pre done mem) (hp : ∀ y, y ∈ pre → f y.i = true ∨ y.o.d ≠ some e) :
    look e (tmpsIn f done t) = look e (tmpsIn (fun _ => true) done t) := by
  induction h with
  | nil => rfl
  | cons x y b h ih =>
    have ih := ih (fun y hy => hp y (.tail _ hy))
    cases hd : x.o.d with
    | none => simp only [tmpsIn]; exact ih
    | some d =>
      simp only [tmpsIn, cond_true]
      cases hf : f x.i with
      | true => simp only [cond_true, look_cons]; rw [ih]
      | false =>
        simp only [cond_false, look_cons]
        rcases hp x (.head _) with h1 | h1
        · rw [hf] at h1; cases h1
        · rw [hd] at h1
          have : e ≠ d := fun e' => h1 (by rw [e'])
          rw [if_neg this]; exact ih

theorem memIn_pre {f : Nat → Bool} {bx : List (Nat × List A)} {pre done mem} (h : Pre pre done mem) (hp : ∀ y, y ∈ pre → f y.i = true ∨ isWr y.o.op = false) :
    memIn f mem bx = memIn (fun _ => true) mem bx := by
  induction h with
  | nil => rfl
  | cons x y b h ih =>
    have ih := ih (fun y hy => hp y (.tail _ hy))
    cases hw : isWr x.o.op with
    | false => simp only [cond_false]; exact ih
    | true =>
      simp only [cond_true, memIn]
      rcases hp x (.head _) with h1 | h1
      · rw [h1]; rfl
      · rw [hw] at h1; cases h1

theorem evCells_congr {s s' : St} : ∀ {ps : List (Nat × Nat × Opd)}, (∀ x, x ∈ ps.map (fun p => p.2.2) → s.ev x = s'.ev x) → evCells s ps = evCells s' ps
  | [], _ => rfl
  | (o, c, x) :: r, h => by
    simp only [evCells]
    rw [h x (by simp), evCells_congr (ps := r) (fun y hy => h y (by simp at hy ⊢; exact .inr hy))]

theorem vcBounds_same {s s' : St} {len : Nat} {lo hi : Option Opd} {K : Nat → Nat → Prop} (h1 : ∀ x, x ∈ lo.toList → s.ev x = s'.ev x) (h2 : ∀ x, x ∈ hi.toList → s.ev x = s'.ev x) : vcBounds s len lo hi K = vcBounds s' len lo hi K := by
  cases lo with
  | none => cases hi with
    | none => rfl
    | some h => simp only [vcBounds]; rw [h2 h (by simp)]
  | some l => cases hi with
    | none => simp only [vcBounds]; rw [h1 l (by simp)]
    | some h => simp only [vcBounds]; rw [h1 l (by simp), h2 h (by simp)]

theorem pop_congr {ao : AOp} {s s' : St} {K : A → Prop} (h : ∀ x, x ∈ opdsOf ao → s.ev x = s'.ev x) (hb : isLd (.op ao) = true → s.bx = s'.bx) : pop ao s K = pop ao s' K := by
  cases ao <;> simp only [opdsOf, List.mem_cons, List.not_mem_nil, or_false, forall_eq_or_imp, forall_eq, List.mem_append, or_imp, forall_and, List.cons_append] at h <;> simp only [pop] <;> try rfl
  case mv => rw [h]
  case pick => rw [h.1, h.2.1, h.2.2]
  case load => rw [h, hb rfl]
  case nilck => rw [h]
  case bin => rw [h.1, h.2]
  case binB => rw [h.1, h.2]
  case eqs => rw [h.1, h.2]
  case un => rw [h]
  case cvi => rw [h]
  case fa => rw [h]
  case ixa => rw [h.1, h.2]
  case ixs => rw [h.1, h.2]
  case len => rw [h]
  case slc => rw [h.1]; simp only [vcBounds_same h.2.1 h.2.2]
  case sla => rw [h.1]; simp only [vcBounds_same h.2.1 h.2.2]
  case s2a => rw [h]
  case build => rw [evCells_congr h]
  case bslc => rw [evCells_congr h]

theorem pwr_congr {ao : AOp} {d : Option Nat} {s s' : St} {K : A → List (Nat × List A) → Prop} (h : ∀ x, x ∈ opdsOf ao → s.ev x = s'.ev x) (hb : s.bx = s'.bx) (hk : s.k = s'.k) : pwr ao d s K = pwr ao d s' K := by
  cases ao <;> simp only [opdsOf, List.mem_cons, List.not_mem_nil, or_false, forall_eq_or_imp, forall_eq] at h <;> simp only [pwr, hb, hk] <;> try rfl
  case store => rw [h.1, h.2]
  case cpy => rw [h.1, h.2]

theorem vcInt_mono {op : BinOp} {k : IntKind} {a b : Int} {K K' : A → Prop} (hk : ∀ y, K y → K' y) : vcInt op k a b K → vcInt op k a b K' := by
  cases op <;> simp only [vcInt] <;> first | exact hk _ | exact fun h => ⟨h.1, hk _ h.2⟩
theorem vcStr_mono {op : BinOp} {a b : List UInt8} {K K' : A → Prop} (hk : ∀ y, K y → K' y) : vcStr op a b K → vcStr op a b K' := by
  cases op <;> simp only [vcStr] <;> first | exact hk _ | exact fun h => ⟨h.1, hk _ h.2⟩ | exact id
theorem vcBounds_mono {s : St} {len : Nat} {lo hi : Option Opd} {K K' : Nat → Nat → Prop} (hk : ∀ l h, K l h → K' l h) : vcBounds s len lo hi K → vcBounds s len lo hi K' := by
  cases lo <;> cases hi <;> simp only [vcBounds]
  · exact hk _ _
  · intro h; split at h
    · exact ⟨h.1, hk _ _ h.2⟩
    · exact h
  · intro h; split at h
    · exact ⟨h.1, hk _ _ h.2⟩
    · exact h
  · intro h; split at h
    · exact ⟨h.1, hk _ _ h.2⟩
    · exact h

theorem pop_mono {ao : AOp} {s : St} {K K' : A → Prop} (h : pop ao s K) (hk : ∀ y, K y → K' y) : pop ao s K' := by
  revert h
  cases ao <;> simp only [pop] <;> try exact id
  case mv => exact hk _
  case pick => intro h; split at h; exact hk _ h; exact ⟨h.1, hk _ h.2⟩; exact ⟨h.1, hk _ h.2⟩; exact h
  case load =>
    intro h
    split at h
    · split at h
      · split at h
        · exact ⟨h.1, hk _ h.2⟩
        · split at h
          · exact hk _ h
          · exact h
      · exact h
    · split at h
      · exact ⟨h.1, hk _ h.2⟩
      · split at h
        · exact hk _ h
        · exact h
    · exact h
  case nilck => intro h; split at h; exact hk _ h; exact hk _ h; exact h
  case bin =>
    intro h
    split at h
    · exact ⟨h.1, vcInt_mono hk h.2⟩
    · exact vcStr_mono hk h
    · exact h
  case binB => intro h; split at h; exact hk _ h; exact h
  case eqs =>
    intro h
    split at h
    · split at h
      · exact hk _ h
      · exact h
    · exact h
  case un => intro h; split at h; exact hk _ h; exact hk _ h; exact hk _ h; exact h
  case cvi => intro h; split at h; exact hk _ h; exact h
  case fa => intro h; split at h; exact hk _ h; exact hk _ h; exact h
  case ixa => intro h; split at h; exact ⟨h.1, hk _ h.2⟩; exact ⟨h.1, hk _ h.2⟩; exact h
  case ixs => intro h; split at h; exact ⟨h.1, h.2.1, hk _ h.2.2⟩; exact ⟨h.1, hk _ h.2⟩; exact h
  case len => intro h; split at h; exact hk _ h; exact hk _ h; exact h
  case slc => intro h; split at h; exact ⟨h.1, vcBounds_mono (fun _ _ => hk _) h.2⟩; exact h
  case sla => intro h; split at h; exact vcBounds_mono (fun _ _ q => ⟨q.1, hk _ q.2⟩) h; exact h
  case s2a => intro h; split at h; exact ⟨h.1, h.2.1, h.2.2.1, hk _ h.2.2.2⟩; exact ⟨h.1, hk _ h.2⟩; exact h
  case build =>
    intro h
    split at h
    · split at h
      · exact hk _ h
      · exact h
    · exact h
  case bslc =>
    intro h
    split at h
    · split at h
      · split at h
        · split at h
          · exact hk _ h
          · exact h
        · exact h
      · exact h
    · exact h

theorem pwr_mono {ao : AOp} {d : Option Nat} {s : St} {K K' : A → List (Nat × List A) → Prop} (h : pwr ao d s K) (hk : ∀ y b, K y b → K' y b) : pwr ao d s K' := by
  revert h
  cases ao <;> simp only [pwr] <;> try exact id
  case store =>
    intro h
    split at h
    · split at h
      · exact ⟨h.1, h.2.1, h.2.2.1, h.2.2.2.1, hk _ _ h.2.2.2.2⟩
      · exact h
    · exact h
  case alloc => intro h; split at h; exact ⟨h.1, hk _ _ h.2⟩; exact h
  case cpy =>
    intro h
    split at h
    · split at h
      · exact ⟨h.1, h.2.1, hk _ _ h.2.2⟩
      · exact h
    · exact h

theorem seq_draw {P : Program} {n k : Nat} {t0 : List (Nat × A)} {bx0 : List (Nat × List A)} {own0 : List (Loc × Nat)} {K : St → Prop} : ∀ (l : List DO) {pre done mem}, Pre pre done mem → okS pre l = true →
    vcDS P l ⟨n, k, tmpsIn (fun _ => true) done t0, memIn (fun _ => true) mem bx0, []⟩ K → vcD P ⟨n, k, t0, bx0, own0⟩ l done mem K := by
  intro l
  induction l with
  | nil => intro pre done mem _ _ h; exact h
  | cons x r ih =>
    intro pre done mem hpre hok h
    simp only [okS, Bool.and_eq_true, List.all_eq_true] at hok
    obtain ⟨h1, h2⟩ := hok
    have hev0 : ∀ y, y ∈ opdsG x.o → St.ev ⟨n, k, tmpsIn (memN · x.anc) done t0, memIn (memN · x.anc) mem bx0, []⟩ y = St.ev ⟨n, k, tmpsIn (fun _ => true) done t0, memIn (fun _ => true) mem bx0, []⟩ y := by
      intro y hy
      cases y with
      | c a => rfl
      | t i =>
        refine look_tmpsPre hpre (fun z hz => ?_)
        have := h1 z hz
        simp only [okS1, Bool.or_eq_true, Bool.and_eq_true] at this
        rcases this with q | ⟨q, _⟩
        · exact .inl q
        · right
          intro e
          rw [e] at q
          have hm : memN i (opdTs (opdsG x.o)) = true := by
            generalize opdsG x.o = os at hy
            induction os with
            | nil => cases hy
            | cons o os ih2 =>
              cases o with
              | c a =>
                rcases List.mem_cons.1 hy with e | hy
                · cases e
                · exact ih2 hy
              | t j =>
                simp only [opdTs, memN]
                rcases List.mem_cons.1 hy with e | hy
                · cases e; simp
                · cases Nat.beq i j with
                  | true => rfl
                  | false => exact ih2 hy
          simp only [hm] at q
          cases q
    have hev : ∀ y, y ∈ opdsI x.o.op → St.ev ⟨n, k, tmpsIn (memN · x.anc) done t0, memIn (memN · x.anc) mem bx0, []⟩ y = St.ev ⟨n, k, tmpsIn (fun _ => true) done t0, memIn (fun _ => true) mem bx0, []⟩ y :=
      fun y hy => hev0 y (List.mem_append_right _ hy)
    have hbx : (isWr x.o.op || isCa x.o.op || isLd x.o.op) = true → memIn (memN · x.anc) mem bx0 = memIn (fun _ => true) mem bx0 := by
      intro hq
      refine memIn_pre hpre (fun z hz => ?_)
      have := h1 z hz
      simp only [okS1, Bool.or_eq_true, Bool.and_eq_true] at this
      rcases this with q | ⟨_, q⟩
      · exact .inl q
      · right
        cases hw : isWr z.o.op with
        | false => rfl
        | true => rw [hw, hq] at q; cases q
    -- the next one
    have next : ∀ y b, vcDS P r ⟨n, k, (match x.o.d with | some d => (d, y) :: tmpsIn (fun _ => true) done t0 | none => tmpsIn (fun _ => true) done t0), (bif isWr x.o.op then b else memIn (fun _ => true) mem bx0), []⟩ K →
        vcD P ⟨n, k, t0, bx0, own0⟩ r ((x.i, x.o.d, y) :: done) (bif isWr x.o.op then (x.i, b) :: mem else mem) K := by
      intro y b hn
      refine ih (Pre.cons x y b hpre) h2 ?_
      have e1 : tmpsIn (fun _ => true) ((x.i, x.o.d, y) :: done) t0 = (match x.o.d with | some d => (d, y) :: tmpsIn (fun _ => true) done t0 | none => tmpsIn (fun _ => true) done t0) := by
        cases x.o.d <;> rfl
      have e2 : memIn (fun _ => true) (bif isWr x.o.op then (x.i, b) :: mem else mem) bx0 = (bif isWr x.o.op then b else memIn (fun _ => true) mem bx0) := by
        cases isWr x.o.op <;> rfl
      rw [e1, e2]; exact hn
    have main : ∀ (Kd : A → List (Nat × List A) → Prop), (∀ y b, Kd y b → vcDS P r ⟨n, k, (match x.o.d with | some d => (d, y) :: tmpsIn (fun _ => true) done t0 | none => tmpsIn (fun _ => true) done t0), (bif isWr x.o.op then b else memIn (fun _ => true) mem bx0), []⟩ K) →
        vcDop P x.o.op x.o.d ⟨n, k, tmpsIn (fun _ => true) done t0, memIn (fun _ => true) mem bx0, []⟩ Kd →
        vcDop P x.o.op x.o.d ⟨n, k, tmpsIn (memN · x.anc) done t0, memIn (memN · x.anc) mem bx0, []⟩ (fun y b => vcD P ⟨n, k, t0, bx0, own0⟩ r ((x.i, x.o.d, y) :: done) (bif isWr x.o.op then (x.i, b) :: mem else mem) K) := by
      intro Kd hKd h
      have next : ∀ y b, Kd y b → vcD P ⟨n, k, t0, bx0, own0⟩ r ((x.i, x.o.d, y) :: done) (bif isWr x.o.op then (x.i, b) :: mem else mem) K := fun y b hy => next y b (hKd y b hy)
      clear hKd
      cases hop : x.o.op with
      | callv f args => rw [hop] at h; exact h.elim
      | call f args po =>
        rw [hop] at h hev hbx next
        have hb := hbx (by simp [isCa])
        simp only [vcDop] at h ⊢
        obtain ⟨y, q1, q2, q3, q4, q5, q6⟩ := h
        have e : args.map (St.ev ⟨n, k, tmpsIn (memN · x.anc) done t0, memIn (memN · x.anc) mem bx0, []⟩) = args.map (St.ev ⟨n, k, tmpsIn (fun _ => true) done t0, memIn (fun _ => true) mem bx0, []⟩) :=
          List.map_congr_left fun z hz => hev z hz
        refine ⟨y, by rw [e]; exact q1, by rw [e]; exact q2, q3, q4, by rw [hb]; exact q5, ?_⟩
        exact next y (memIn (fun _ => true) mem bx0) q6
      | op ao =>
        rw [hop] at h hev hbx next
        simp only [vcDop] at h ⊢
        refine ⟨h.1, ?_⟩
        have h := h.2
        cases hw : isWr (.op ao) with
        | true =>
          rw [hw] at h
          simp only [cond_true, hw] at h ⊢
          rw [pwr_congr (s' := ⟨n, k, tmpsIn (fun _ => true) done t0, memIn (fun _ => true) mem bx0, []⟩) hev (hbx (by rw [hw]; rfl)) rfl]
          refine pwr_mono h (fun y b hn => ?_)
          have := next y b (by simpa [hw] using hn)
          simpa [hw] using this
        | false =>
          rw [hw] at h
          simp only [cond_false, hw] at h ⊢
          rw [pop_congr (s' := ⟨n, k, tmpsIn (fun _ => true) done t0, memIn (fun _ => true) mem bx0, []⟩) hev (fun hl => hbx (by simp [hl]))]
          refine pop_mono h (fun y hn => ?_)
          have := next y (memIn (fun _ => true) mem bx0) (by simpa [hw] using hn)
          simpa [hw] using this
    have mw : isWr x.o.op = true → memIn (memN · x.anc) mem bx0 = memIn (fun _ => true) mem bx0 := fun hw => hbx (by rw [hw]; rfl)
    have skip : ∀ b, vcDS P r ⟨n, k, (match x.o.d with | some d => (d, .tup []) :: tmpsIn (fun _ => true) done t0 | none => tmpsIn (fun _ => true) done t0), (bif isWr x.o.op then b else memIn (fun _ => true) mem bx0), []⟩ K → (isWr x.o.op = true → b = memIn (fun _ => true) mem bx0) →
        vcD P ⟨n, k, t0, bx0, own0⟩ r ((x.i, x.o.d, .tup []) :: done) (bif isWr x.o.op then (x.i, memIn (memN · x.anc) mem bx0) :: mem else mem) K := by
      intro b hb hw
      have := next (.tup []) b hb
      cases hq : isWr x.o.op with
      | false => rw [hq] at this; exact this
      | true => rw [hq] at this; rw [mw hq, ← hw hq]; exact this
    have h : vcDg P x.o ⟨n, k, tmpsIn (fun _ => true) done t0, memIn (fun _ => true) mem bx0, []⟩ _ := h
    show vcDg P x.o ⟨n, k, tmpsIn (memN · x.anc) done t0, memIn (memN · x.anc) mem bx0, []⟩ _
    unfold vcDg at h ⊢
    cases hg : x.o.g with
    | none =>
      rw [hg] at h
      exact main _ (fun y b q => q) h
    | some jw =>
      obtain ⟨j, want⟩ := jw
      rw [hg] at h
      simp only at h ⊢
      have e : look j (tmpsIn (memN · x.anc) done t0) = look j (tmpsIn (fun _ => true) done t0) := hev0 (.t j) (List.mem_append_left _ (by rw [hg]; exact .head _))
      rw [e]
      split at h
      · rename_i c hl
        exact ⟨fun q => main _ (fun y b q => q) (h.1 q), fun q => skip _ (h.2 q) (fun _ => rfl)⟩
      · exact skip _ h (fun _ => rfl)
      · exact h.elim

def vcOps (P : Program) : List AO → St → (AX → St → Prop) → Prop
  | [], s, Q => Q .normal s
  | o :: r, s, Q =>
    match o.g with
    | none => vcOne P o s (fun s' => vcOps P r s' Q) (fun x s' => Q (.panic x) s')
    | some (j, want) => match look j s.t with
      | .d (.bool c) => (c = want → vcOne P o (s.know j want) (fun s' => vcOps P r s' Q) (fun x s' => Q (.panic x) s')) ∧
          (c = !want → vcOps P r ((s.know j (!want)).setd o.d (.tup [])) Q)
      | .tup [] => vcOps P r (s.setd o.d (.tup [])) Q
      | _ => False

section
variable {P : Program} {X : Ctx} {σ : Store} {β : Names} {s : St} {a : Act} {w : World}

/-- The operations of a region, in order. -/
theorem ops_sound {ows : List (FuncId × Nat)} {ops : Array Oper} {Q : AX → St → Prop} : ∀ (l : List Oper) (ls : List AO) (k : Nat), ops.toList.drop k = l → ∀ (s : St) (σ : Store) (β : Names) (a : Act) (w : World), compOps P ows s.n ops l = some ls →
    Rel X σ β s a w → vcOps P ls s Q → wpOps P ops (Post Q X s.n s.k σ β w) (List.range' k l.length) a w := by
  intro l
  induction l with
  | nil =>
    intro ls k hk s σ β a w hc h hv
    simp only [compOps, Option.some.injEq] at hc
    subst hc
    exact ⟨.normal, s, σ, β, hv, rfl, rfl, trivial, h, Step.refl _ _ _ _ _⟩
  | cons o r ih =>
    intro ls k hk s σ β a w hc h hv
    have hok : ops[k]? = some o := by
      have : (ops.toList.drop k)[0]? = some o := by rw [hk]; rfl
      rw [List.getElem?_drop, Array.getElem?_toList] at this
      simpa using this
    have hk' : ops.toList.drop (k + 1) = r := by
      have : (ops.toList.drop k).drop 1 = r := by rw [hk]; rfl
      rw [List.drop_drop] at this
      exact this
    simp only [compOps] at hc
    split at hc
    · rename_i x g lr hx hg hlr
      by_cases hdst : dstOk s.n o = true
      · rw [if_pos hdst] at hc
        simp only [Option.some.injEq] at hc
        subst hc
        have hd : ∀ i, o.dst = some i → i < s.n := by
          intro i hi
          unfold dstOk at hdst
          rw [hi] at hdst
          simp only [Bool.and_eq_true, decide_eq_true_eq] at hdst
          exact hdst.1
        have hst : ∀ t x v, o.op = .store t x v → o.dst = none := by
          intro t x v hs
          cases hq : o.dst with
          | none => rfl
          | some i => unfold dstOk at hdst; rw [hq, hs] at hdst; simp [isStore] at hdst
        rw [List.length_cons, List.range'_succ]
        simp only [wpOps, hok]
        -- from the next one on
        have next : ∀ (s' : St) (σ' : Store) (β' : Names) (a' : Act) (w' : World), vcOps P lr s' Q → s'.n = s.n → s'.k = s.k → Rel X σ' β' s' a' w' → Step X s.k σ β w σ' β' w' → wpOps P ops (Post Q X s.n s.k σ β w) (List.range' (k + 1) r.length) a' w' := by
          intro s' σ' β' a' w' hv' hn hk2 hR hS
          have := ih lr (k + 1) hk' s' σ' β' a' w' (by rw [hn]; exact hlr) hR hv'
          rw [hn, hk2] at this
          clear hv hv' hk hk'
          revert this
          generalize List.range' (k + 1) r.length = idx
          intro this
          have mono : ∀ (idx : List Nat) (a : Act) (w1 : World), wpOps P ops (Post Q X s.n s.k σ' β' w') idx a w1 → wpOps P ops (Post Q X s.n s.k σ β w) idx a w1 := by
            intro idx
            induction idx with
            | nil => intro a w1 h; exact Post.from_ hS h
            | cons i idx ihx =>
              intro a w1 h
              simp only [wpOps] at h ⊢
              split at h
              · exact ihx _ _ h
              · split at h
                · rename_i hw
                  rw [if_pos hw]
                  rcases h with h | h
                  · exact .inl (upon_mono h ihx (fun _ _ _ h => Post.from_ hS h))
                  · exact .inr ⟨h.1, by obtain ⟨a0, w0, q⟩ := h.2; exact ⟨a0, w0, Post.from_ hS q⟩⟩
                · rename_i hw
                  rw [if_neg hw]
                  exact ihx _ _ h
          exact mono _ _ _ this
        have run : ∀ (s1 : St), s1.n = s.n → s1.k = s.k → Rel X σ β s1 a w → vcOne P ⟨o.dst, g, x⟩ s1 (fun s' => vcOps P lr s' Q) (fun x s' => Q (.panic x) s') → o.wp P a w (wpOps P ops (Post Q X s.n s.k σ β w) (List.range' (k + 1) r.length)) (Post Q X s.n s.k σ β w) := by
          intro s1 hn1 hk1 hR1 hv1
          refine upon_mono (one_sound hx hR1 (by rw [hn1]; exact hd) hst hv1) ?_ ?_
          · rintro a' w' ⟨s', σ', β', q, e1, e2, hR, hS⟩
            rw [hk1] at hS
            exact next s' σ' β' a' w' q (e1.trans hn1) (e2.trans hk1) hR hS
          · rintro e a' w' ⟨y, v, s', σ', β', rfl, hr, hq, e1, e2, hR, hS⟩
            rw [hk1] at hS
            exact ⟨.panic y, s', σ', β', hq, e1.trans hn1, e2.trans hk1, ⟨v, rfl, hr⟩, hR, hS⟩
        cases hgd : o.guard with
        | none =>
          rw [hgd] at hg
          simp only [compG, Option.some.injEq] at hg
          subst hg
          have hw : Region.wanted o (yielded ops a.tmps) = true := by simp [Region.wanted, hgd]
          rw [if_pos hw]
          exact .inl (run s rfl rfl h hv)
        | some jw =>
          obtain ⟨j, want⟩ := jw
          rw [hgd] at hg
          simp only [compG] at hg
          split at hg
          · rename_i dj hdj
            simp only [Option.some.injEq] at hg
            subst hg
            simp only [vcOps] at hv
            split at hv
            · rename_i c hlk
              have hRA := h.tmp dj
              rw [hlk] at hRA
              have hval := ra_bool hRA
              have hy : yielded ops a.tmps j = some c := by
                unfold yielded
                rw [hdj]
                simp only [Option.bind_some]
                rw [Array.getD_eq_getD_getElem?] at hval
                cases hq : a.tmps[dj]? with
                | none => rw [hq] at hval; simp [undef] at hval
                | some u => rw [hq] at hval; simp only [Option.getD_some] at hval; rw [hval]
              have hw : Region.wanted o (yielded ops a.tmps) = (c == want) := by
                simp only [Region.wanted, hgd, hy]
                cases c <;> cases want <;> rfl
              by_cases hcw : c = want
              · subst hcw
                rw [if_pos (by rw [hw]; simp)]
                exact .inl (run (s.know dj c) rfl rfl (h.know hlk) (hv.1 rfl))
              · have hcn : c = !want := by cases c <;> cases want <;> simp_all
                rw [if_neg (by rw [hw]; simpa using hcw)]
                rw [hcn] at hlk
                have hR1 := (h.know hlk).setd (d := o.dst) (s := s.know dj (!want)) (by intro i hi; exact hd i hi) (RA_undef σ β)
                exact next _ σ β _ w (hv.2 hcn) (by rw [setd_n]; rfl) (by rw [setd_k]; rfl) hR1 (Step.refl _ _ _ _ _)
            · rename_i hlk
              have hRA := h.tmp dj
              rw [hlk] at hRA
              have hval : a.tmps.getD dj undef = undef := ra_undef hRA
              have hy : yielded ops a.tmps j = none := by
                unfold yielded
                rw [hdj]
                simp only [Option.bind_some]
                rw [Array.getD_eq_getD_getElem?] at hval
                cases hq : a.tmps[dj]? with
                | none => rfl
                | some u => rw [hq] at hval; simp only [Option.getD_some] at hval; rw [hval]; rfl
              have hw : Region.wanted o (yielded ops a.tmps) = false := by
                simp only [Region.wanted, hgd, hy]
                cases want <;> rfl
              rw [if_neg (by rw [hw]; simp)]
              have hR1 := h.setd (d := o.dst) (s := s) (by intro i hi; exact hd i hi) (RA_undef σ β)
              exact next _ σ β _ w hv (by rw [setd_n]) (by rw [setd_k]) hR1 (Step.refl _ _ _ _ _)
            · exact hv.elim
          · cases hg
      · rw [if_neg hdst] at hc; cases hc
    · cases hc

end
end Go.Vx

/- A region that draws its order, with an append behind all else: what a temporary owns stays owned. -/
namespace Go.Vx
set_option linter.unusedVariables false
set_option linter.unusedSimpArgs false
open Go

/-- What is owned behind the drawn part. -/
def thr (o : Option Nat) (d : Nat) : List (Loc × Nat) := match o with
  | some c => [(.t d, c)]
  | none => []

/-- Is it written by one of these? -/
def anyD (j : Nat) : List DO → Bool
  | [] => false
  | x :: r => bif isDst j x then true else anyD j r

/-- What temporaries own that none of these writes. -/
def keepU (l : List DO) : List (Loc × Nat) → List (Loc × Nat)
  | [] => []
  | (.t j, c) :: r => bif anyD j l then keepU l r else (.t j, c) :: keepU l r
  | (.b _ _, _) :: r => keepU l r

def ownAfter (mv : Option (Nat × Nat × Nat)) (l : List DO) (ow : List (Loc × Nat)) : List (Loc × Nat) := match mv with
  | none => keepU l ow
  | some (_, a, d) => thr (ownOf a ow) d ++ dropOt a (keepU l ow)

def origOf (mv : Option (Nat × Nat × Nat)) (d : Nat) : Nat := match mv with
  | some (_, a0, d0) => if d = d0 then a0 else d
  | none => d

def withO (ow : List (Loc × Nat)) (K : St → Prop) : St → Prop := fun s => K { s with own := ow }

theorem cut_spec {ops : Array Oper} {l : List DO} {p i a d : Nat} (h : cutOf ops l = some (p, i, a, d)) : cutOk l p i a = true ∧ (ops[i]?).bind tmpMove = some a ∧ dstAt d l 0 = some i := by
  unfold cutOf at h
  split at h
  · split at h
    · rename_i i' h2
      split at h
      · rename_i a' h3
        split at h
        · rename_i h4
          simp only [Option.some.injEq, Prod.mk.injEq] at h
          obtain ⟨rfl, rfl, rfl, rfl⟩ := h
          exact ⟨h4, h3, h2⟩
        · cases h
      · cases h
    · cases h
  · cases h

theorem cut_okS {ops : Array Oper} {l : List DO} {p i a d : Nat} (h : cutOf ops l = some (p, i, a, d)) : okS [] (l.take p) = true := by
  have := (cut_spec h).1
  simp only [cutOk, Bool.and_eq_true] at this
  exact this.2

theorem dstAt_spec {d : Nat} : ∀ (l : List DO) (k i : Nat), dstAt d l k = some i → ∃ m x, i = k + m ∧ l[m]? = some x ∧ x.o.d = some d := by
  intro l
  induction l with
  | nil => intro k i h; cases h
  | cons x r ih =>
    intro k i h
    simp only [dstAt] at h
    cases hd : isDst d x with
    | true =>
      rw [hd] at h
      simp only [cond_true, Option.some.injEq] at h
      refine ⟨0, x, by omega, rfl, ?_⟩
      unfold isDst at hd
      split at hd
      · rename_i e he; rw [he, Nat.eq_of_beq_eq_true hd]
      · cases hd
    | false =>
      rw [hd] at h
      obtain ⟨m, y, h1, h2, h3⟩ := ih (k + 1) i h
      exact ⟨m + 1, y, by omega, by simpa using h2, h3⟩

theorem allBelow_spec : ∀ (k : Nat) (l : List Nat), allBelow k l = true → ∀ j, j < k → memN j l = true := by
  intro k
  induction k with
  | zero => intro l _ j hj; omega
  | succ k ih =>
    intro l h j hj
    simp only [allBelow, Bool.and_eq_true] at h
    by_cases e : j = k
    · subst e; exact h.1
    · exact ih l h.2 j (by omega)

section
variable {P : Program} {ows : List (FuncId × Nat)} {ops : Array Oper} {l l2 : List DO} {s : St} {X : Ctx} {σ : Store} {β : Names} {a : Act} {w : World}

/-- What an operation changes in its frame is its own temporary. -/
theorem wpOp_put1 {i : Nat} {o : Oper} (hi : ops[i]? = some o) {Q : Exit → Act → World → Prop} {K : Act → World → Prop} (h : wpOp P ops Q i K a w) :
    wpOp P ops Q i (fun a' w' => K a' w' ∧ ∃ u, a'.tmps = (a.put o.dst u).tmps) a w := by
  unfold wpOp at h ⊢
  rw [hi] at h ⊢
  simp only at h ⊢
  split
  · rename_i hw
    rw [if_pos hw] at h
    rcases h with h | h
    · left
      unfold Oper.wp at h ⊢
      generalize (execOp a.eval o).run P w = r at h ⊢
      cases r with
      | ok n w' =>
        cases n with
        | value v => exact ⟨h, v, rfl⟩
        | skip => exact ⟨h, undef, rfl⟩
        | defer d => exact ⟨h, undef, by cases o.dst <;> rfl⟩
        | enter f args => exact Calls.mono h (fun e w2 he => by
            cases e with
            | returned v => exact ⟨he, v, rfl⟩
            | panicked c => exact he
            | outgrown => exact he)
        | row row args => exact Rows.mono h (fun v w' hv => ⟨hv, v, rfl⟩)
        | _ => exact h.elim
      | halt x w' => cases x <;> exact h
    · exact .inr h
  · rename_i hw
    rw [if_neg hw] at h
    exact ⟨h, undef, rfl⟩

theorem wpOp_move {i a0 : Nat} (hi : (ops[i]?).bind tmpMove = some a0) {o : Oper} (ho : ops[i]? = some o) {Q : Exit → Act → World → Prop} {K : Act → World → Prop} (h : wpOp P ops Q i K a w) :
    wpOp P ops Q i (fun a' w' => K a' w' ∧ a' = a.put o.dst (a.tmps.getD a0 undef)) a w := by
  rw [ho] at hi
  simp only [Option.bind_some] at hi
  have hm : o.guard = none ∧ (o.op = .move (.tmp a0) ∨ o.op = .assign (.tmp a0)) := by
    unfold tmpMove at hi
    split at hi
    · rename_i h1 h2; cases hi; exact ⟨h1, .inl h2⟩
    · rename_i h1 h2; cases hi; exact ⟨h1, .inr h2⟩
    · cases hi
  unfold wpOp at h ⊢
  rw [ho] at h ⊢
  simp only at h ⊢
  have hw : Region.wanted o (yielded ops a.tmps) = true := by simp [Region.wanted, hm.1]
  rw [if_pos hw] at h ⊢
  rcases h with h | h
  · left
    unfold Oper.wp at h ⊢
    rw [run_move o _ a w hm.2, Oper.upon_value] at h ⊢
    exact ⟨h, rfl⟩
  · exact .inr h

theorem wpOps_post {Q : AX → St → Prop} {n k : Nat} {σ' : Store} {β' : Names} {w0 w' : World} (hS : Step X k σ β w0 σ' β' w') : ∀ (idx : List Nat) (a : Act) (w1 : World),
    wpOps P ops (Post Q X n k σ' β' w') idx a w1 → wpOps P ops (Post Q X n k σ β w0) idx a w1 := by
  intro idx
  induction idx with
  | nil => intro a w1 h; exact Post.from_ hS h
  | cons i idx ihx =>
    intro a w1 h
    simp only [wpOps] at h ⊢
    split at h
    · exact ihx _ _ h
    · split at h
      · rename_i hw
        rw [if_pos hw]
        rcases h with h | h
        · exact .inl (upon_mono h ihx (fun _ _ _ h => Post.from_ hS h))
        · exact .inr ⟨h.1, by obtain ⟨a0, w0, q⟩ := h.2; exact ⟨a0, w0, Post.from_ hS q⟩⟩
      · rename_i hw
        rw [if_neg hw]
        exact ihx _ _ h

/-- Each operation from the tail on waits for all earlier ones. -/
theorem Reg.waits {done' mem'} (h : Reg P ows ops s l l2 done' mem') (hw : ∀ x, x ∈ l2 → allBelow x.i x.anc = true) {L : Array Bool} (hc : Closed (l ++ l2) (fun i => L.getD i false)) {i : Nat}
    (hi : i ∈ Region.ready .any ops L) (hp : l.length ≤ i) : ∀ j, j < i → L.getD j false = true := by
  obtain ⟨hun, o, ho, hall⟩ := mem_ready.1 hi
  obtain ⟨x, hx, hf, h1, h2⟩ := h.fact ho
  intro j hj
  have hm : x ∈ l2 := by
    rw [List.getElem?_append_right hp] at hx
    exact List.mem_of_getElem? hx
  have := allBelow_spec _ _ (hw x hm) j (by rw [hf.i]; exact hj)
  obtain ⟨_, e, he, hb, hq⟩ := h2 j this
  rcases hq with rfl | ⟨y, hy, hj'⟩
  · exact hall e he hb
  · exact hc _ y hy (hall e he hb) j hj'

theorem Reg.anc_lt {done' mem'} (h : Reg P ows ops s l l2 done' mem') {k : Nat} {x : DO} (hx : (l ++ l2)[k]? = some x) : ∀ j, memN j x.anc = true → j < k := by
  have hk : k < ops.size := by rw [← h.len]; exact (List.getElem?_eq_some_iff.1 hx).1
  obtain ⟨o, ho⟩ : ∃ o, ops[k]? = some o := ⟨_, Array.getElem?_eq_getElem hk⟩
  obtain ⟨x', h1, h2, _, h4⟩ := h.fact ho
  rw [hx] at h1; cases h1
  exact fun j hj => (h4 j hj).1

/-- The tail goes in its order. -/
theorem any_tail {done' mem'} (h : Reg P ows ops s l l2 done' mem') (hw : ∀ x, x ∈ l2 → allBelow x.i x.anc = true) {Q : Exit → Act → World → Prop} :
    ∀ (n fuel k : Nat) (L : Array Bool) (a : Act) (w : World), n ≤ fuel → k + n = ops.size → l.length ≤ k → L.size = ops.size → (∀ j, L.getD j false = decide (j < k)) →
      wpOps P ops Q (List.range' k n) a w → wpAny P .any ops Q fuel L a w := by
  intro n
  induction n with
  | zero =>
    intro fuel k L a w _ hk hp hs hL hv
    have hr : Region.ready .any ops L = [] := by
      cases hr : Region.ready .any ops L with
      | nil => rfl
      | cons i r =>
        have hi : i ∈ Region.ready .any ops L := by rw [hr]; exact .head _
        obtain ⟨hun, o, ho, _⟩ := mem_ready.1 hi
        have h1 := getD_both hun
        rw [hL] at h1
        have := (Array.getElem?_eq_some_iff.1 ho).1
        simp at h1
        omega
    cases fuel with
    | zero => exact ⟨hr, hv⟩
    | succ fuel => exact ⟨fun _ => hv, fun i hi => by rw [hr] at hi; cases hi⟩
  | succ n ih =>
    intro fuel k L a w hfu hk hp hs hL hv
    cases fuel with
    | zero => omega
    | succ fuel =>
      have hcl : Closed (l ++ l2) (fun i => L.getD i false) := by
        intro k' x hx hl j hj
        simp only [hL, decide_eq_true_eq] at hl ⊢
        have := h.anc_lt hx j hj
        omega
      have hksz : k < ops.size := by omega
      obtain ⟨ok, hok⟩ : ∃ o, ops[k]? = some o := ⟨_, Array.getElem?_eq_getElem hksz⟩
      obtain ⟨x, hx, hf, h1, h2⟩ := h.fact hok
      refine ⟨fun hr => ?_, fun i hi => ?_⟩
      · have : k ∈ Region.ready .any ops L := mem_ready.2 ⟨getD_in (by omega) (by rw [hL]; simp), ok, hok, fun e he hb => by rw [hL]; simpa using h1 e he hb⟩
        rw [hr] at this; cases this
      · obtain ⟨hun, o, ho, _⟩ := mem_ready.1 hi
        have h3 := getD_both hun
        rw [hL] at h3
        simp only [decide_eq_false_iff_not] at h3
        have hik : i = k := by
          rcases Nat.lt_or_ge k i with q | q
          · have := h.waits hw hcl hi (by omega) k q
            rw [hL] at this; simp at this
          · omega
        subst hik
        rw [List.range'_succ, wpOps_cons] at hv
        refine wpOp_mono (fun a' w' hv' => ih fuel (i + 1) _ a' w' (by omega) (by omega) (by omega) (by simpa using hs) ?_ hv') hv
        intro j
        by_cases hj : j = i
        · subst hj
          simp [hs, hksz]
        · rw [getD_set_ne false (Ne.symm hj), hL]
          simp only [decide_eq_decide]; omega

/-- The blocks behind what temporaries own. -/
def lentB (s : St) (a : Act) : Nat → Prop := fun b => ∃ j c, (Loc.t j, c) ∈ s.own ∧ ownB (a.tmps.getD j undef) = some b

theorem own_block {c : Nat} {v : Value} {b : Nat} (hov : OwnV X σ β w c v) (hb : ownB v = some b) : (∃ arr T fz, w.heap[b]? = some (.cells arr T fz)) ∧ ∀ n, β n ≠ some b := by
  unfold ownB at hb
  split at hb
  · rename_i b' off len cap
    split at hb
    · rename_i hlt
      cases hb
      obtain ⟨⟨arr, T, fz, h1, _⟩, _, _, h4⟩ := hov _ _ _ _ rfl hlt
      exact ⟨⟨arr, T, fz, h1⟩, h4⟩
    · cases hb
  · cases hb

/-- What temporaries own is left alone by whatever knows their blocks as foreign. -/
theorem Rel.lend (h : Rel X σ β s a w) : Rel ⟨fun b => X b ∨ lentB s a b, X.df⟩ σ β { s with own := [] } a w := by
  have key : ∀ b, lentB s a b → (∃ arr T fz, w.heap[b]? = some (.cells arr T fz)) ∧ ∀ n, β n ≠ some b := by
    rintro b ⟨j, c, hm, hb⟩
    obtain ⟨v, hv, hov⟩ := h.own _ _ hm
    have hv' : a.tmps.getD j undef = v := by simpa [locVal] using hv
    rw [hv'] at hb
    exact own_block hov hb
  refine ⟨h.size, h.defs, h.tmp, h.st, ?_, ?_, h.dom, h.inj, fun _ _ hl => (by cases hl), fun _ _ _ _ hl => (by cases hl)⟩
  · rintro b (hb | hb)
    · exact h.xs b hb
    · obtain ⟨⟨arr, T, fz, h1⟩, _⟩ := key b hb
      exact lt_of_block h1
  · intro n cs hn
    obtain ⟨b, arr, T, fz, h1, h2, h3, h4, h5, h6, h7⟩ := h.box n cs hn
    refine ⟨b, arr, T, fz, h1, h2, h3, h4, ?_, h6, h7⟩
    rintro (q | q)
    · exact h5 q
    · exact (key b q).2 n h1

theorem Rel.giveBack {σ' : Store} {β' : Names} {s' : St} {a' : Act} {w' : World} {k : Nat} (h0 : Rel X σ β s a w) (h : Rel ⟨fun b => X b ∨ lentB s a b, X.df⟩ σ' β' s' a' w') (st : Step ⟨fun b => X b ∨ lentB s a b, X.df⟩ k σ β w σ' β' w')
    {ow : List (Loc × Nat)} (orig : Nat → Nat) (how : ∀ l c, (l, c) ∈ ow → ∃ d, l = .t d ∧ (Loc.t (orig d), c) ∈ s.own ∧ a'.tmps.getD d undef = a.tmps.getD (orig d) undef)
    (hinj : ∀ d d' c c', (Loc.t d, c) ∈ ow → (Loc.t d', c') ∈ ow → d ≠ d' → orig d ≠ orig d') :
    Rel X σ' β' { s' with own := ow } a' w' ∧ Step X k σ β w σ' β' w' := by
  refine ⟨⟨h.size, h.defs, h.tmp, h.st, fun b hb => h.xs b (.inl hb), ?_, h.dom, h.inj, ?_, ?_⟩, ⟨st.le, fun b hb => st.xs b (.inl hb), st.size, st.os, st.tape, st.output, st.names⟩⟩
  · intro n cs hn
    obtain ⟨b, arr, T, fz, h1, h2, h3, h4, h5, h6, h7⟩ := h.box n cs hn
    exact ⟨b, arr, T, fz, h1, h2, h3, h4, fun q => h5 (.inl q), h6, h7⟩
  · intro l c hl
    obtain ⟨d, rfl, hm, he⟩ := how l c hl
    obtain ⟨v, hv, hov⟩ := h0.own _ _ hm
    have hv' : a.tmps.getD (orig d) undef = v := by simpa [locVal] using hv
    refine ⟨v, by simp only [locVal]; rw [he, hv'], ?_⟩
    intro b off len cap e hlt
    have hY : lentB s a b := ⟨orig d, c, hm, by rw [hv', e]; simp [ownB, hlt]⟩
    obtain ⟨⟨arr, T, fz, h1, h2, h3⟩, h4, h5, h6⟩ := hov b off len cap e hlt
    obtain ⟨q1, q2⟩ := st.xs b (.inr hY)
    refine ⟨⟨arr, T, fz, q1.trans h1, h2, h3⟩, fun o ho => (q2 o).trans (h4 o ho), h5, fun n hn => ?_⟩
    obtain ⟨cs, hcs⟩ := h.dom n b hn
    obtain ⟨b', _, _, _, g1, _, _, _, g5, _⟩ := h.box n cs hcs
    rw [hn] at g1; cases g1
    exact g5 (.inr hY)
  · intro l c l' c' hl hl' hne v v' b hv hv' hb
    obtain ⟨d, rfl, hm, he⟩ := how l c hl
    obtain ⟨d', rfl, hm', he'⟩ := how l' c' hl'
    have hd : d ≠ d' := fun e => hne (by rw [e])
    simp only [locVal, Option.some.injEq] at hv hv'
    rw [he] at hv
    rw [he'] at hv'
    exact h0.sep _ _ _ _ hm hm' (fun e => hinj d d' c c' hl hl' hd (Loc.t.inj e)) v v' b (by simp only [locVal, hv]) (by simp only [locVal, hv']) hb

theorem Inv.full {done' mem'} {listed : Array Bool} (h : Reg P ows ops s l l2 done' mem') (hall : ∀ i, i < l.length → listed.getD i false = true) :
    stL s (fun i => listed.getD i false) done' mem' = stL s (fun _ => true) done' mem' := by
  obtain ⟨⟨N, M, e1, e2, n1, n2⟩, _⟩ := good_at _ _ _ _ _ h.good
  have hlt : ∀ z, z ∈ l → z.i < l.length := fun z hz => by
    obtain ⟨k, hk⟩ := List.mem_iff_getElem?.1 hz
    rw [(h.ix hk).1]
    exact (List.getElem?_eq_some_iff.1 hk).1
  unfold stL
  have t1 : tmpsIn (fun i => listed.getD i false) done' s.t = tmpsIn (fun _ => true) done' s.t := tmpsIn_congr _ (fun p hp => by
    rw [e1] at hp
    obtain ⟨z, hz, q, _⟩ := n1 p (by simpa using hp)
    rw [q]; exact hall _ (hlt z hz))
  have t2 : memIn (fun i => listed.getD i false) mem' s.bx = memIn (fun _ => true) mem' s.bx := memIn_congr _ (fun p hp => by
    rw [e2] at hp
    obtain ⟨z, hz, q, _⟩ := n2 p (by simpa using hp)
    rw [q]; exact hall _ (hlt z hz))
  rw [t1, t2]

theorem anyD_spec {j : Nat} {l : List DO} (h : anyD j l = false) : ∀ x, x ∈ l → x.o.d ≠ some j := by
  induction l with
  | nil => intro x hx; cases hx
  | cons y r ih =>
    intro x hx
    simp only [anyD] at h
    cases hd : isDst j y with
    | true => rw [hd] at h; cases h
    | false =>
      rw [hd] at h
      rcases List.mem_cons.1 hx with rfl | hx
      · intro e
        unfold isDst at hd
        rw [e] at hd
        simp at hd
      · exact ih h x hx

theorem keepU_spec {l : List DO} : ∀ {ow : List (Loc × Nat)} {q : Loc} {c : Nat}, (q, c) ∈ keepU l ow → ∃ j, q = .t j ∧ (Loc.t j, c) ∈ ow ∧ anyD j l = false := by
  intro ow
  induction ow with
  | nil => intro q c h; cases h
  | cons p r ih =>
    obtain ⟨q', c'⟩ := p
    intro q c h
    cases q' with
    | t j =>
      simp only [keepU] at h
      cases ha : anyD j l with
      | true =>
        rw [ha] at h
        obtain ⟨j', h1, h2, h3⟩ := ih h
        exact ⟨j', h1, .tail _ h2, h3⟩
      | false =>
        rw [ha] at h
        rcases List.mem_cons.1 h with e | h
        · cases e; exact ⟨j, rfl, .head _, ha⟩
        · obtain ⟨j', h1, h2, h3⟩ := ih h
          exact ⟨j', h1, .tail _ h2, h3⟩
    | b n o =>
      obtain ⟨j', h1, h2, h3⟩ := ih (show (q, c) ∈ keepU l r from h)
      exact ⟨j', h1, .tail _ h2, h3⟩

/-- ONE WALK OF THE ORDER OF THE TEXT SERVES EVERY ORDER of the first part; the second goes in its order; what temporaries own stays owned. -/
theorem drawg_sound {id : Nat} {Q : AX → St → Prop} {mv : Option (Nat × Nat × Nat)} {tl : List AO} (hm : P.follows .mixedOrders = true) (hc : compD P ows s.n ops 0 [] ops.toList = some (l ++ l2)) (ho : okD (l ++ l2) = true)
    (hwt : ∀ x, x ∈ l2 → allBelow x.i x.anc = true) (hmv : ∀ i0 a0 d0, mv = some (i0, a0, d0) → i0 < l.length ∧ (ops[i0]?).bind tmpMove = some a0 ∧ (∃ x, l[i0]? = some x ∧ x.o.d = some d0) ∧ ∀ x, x ∈ l → x.o.d ≠ some a0)
    (htl : compOps P ows s.n ops (ops.toList.drop l.length) = some tl)
    (hv : vcD P s l [] [] (withO (ownAfter mv l s.own) (fun s' => vcOps P tl s' Q))) : Tr P (.region id ops true) s Q := by
  intro X σ β a w hr
  obtain ⟨done', mem', hg, hK⟩ := good_of_vcD l [] [] hv
  have h : Reg P ows ops s l l2 done' mem' := ⟨hc, ho, hg⟩
  have hsz : l.length ≤ ops.size := by have := h.len; rw [List.length_append] at this; omega
  -- who writes what, ahead of the tail
  have dst : ∀ i o, i < l.length → ops[i]? = some o → ∃ x, l[i]? = some x ∧ x.o.d = o.dst := by
    intro i o hi hoi
    obtain ⟨x, hx, hf, _, _⟩ := h.fact hoi
    rw [List.getElem?_append_left hi] at hx
    exact ⟨x, hx, hf.d⟩
  -- whose value each place of the owned ones has
  let orig : Nat → Nat := origOf mv
  -- what is so of the temporaries meanwhile
  let G : Array Bool → Act → Prop := fun L a1 => (∀ j, anyD j l = false → a1.tmps.getD j undef = a.tmps.getD j undef) ∧
    ∀ i0 a0 d0, mv = some (i0, a0, d0) → L.getD i0 false = true → a1.tmps.getD d0 undef = a.tmps.getD a0 undef
  let X' : Ctx := ⟨fun b => X b ∨ lentB s a b, X.df⟩
  have hr' : Rel X' σ β { s with own := [] } a w := hr.lend
  have fin : ∀ (a1 : Act), (∀ i0 a0 d0, mv = some (i0, a0, d0) → a1.tmps.getD d0 undef = a.tmps.getD a0 undef) → (∀ j, anyD j l = false → a1.tmps.getD j undef = a.tmps.getD j undef) →
      (∀ q c, (q, c) ∈ ownAfter mv l s.own → ∃ d, q = .t d ∧ (Loc.t (orig d), c) ∈ s.own ∧ a1.tmps.getD d undef = a.tmps.getD (orig d) undef) ∧
      ∀ d d' c c', (Loc.t d, c) ∈ ownAfter mv l s.own → (Loc.t d', c') ∈ ownAfter mv l s.own → d ≠ d' → orig d ≠ orig d' := by
    intro a1 hd hk
    cases hq : mv with
    | none =>
      have ho : ∀ d, orig d = d := fun d => by simp only [orig, hq, origOf]
      refine ⟨fun q c hm => ?_, fun d d' c c' _ _ hne => by rw [ho, ho]; exact hne⟩
      obtain ⟨j, rfl, h1, h2⟩ := keepU_spec hm
      exact ⟨j, rfl, by rw [ho]; exact h1, by rw [ho]; exact hk j h2⟩
    | some m =>
      obtain ⟨i0, a0, d0⟩ := m
      obtain ⟨g1, g2, ⟨x0, gx, gd⟩, g4⟩ := hmv i0 a0 d0 hq
      have hd0 : anyD d0 l = true := by
        cases e : anyD d0 l with
        | true => rfl
        | false => exact absurd gd (anyD_spec e x0 (List.mem_of_getElem? gx))
      have ho : ∀ d, orig d = if d = d0 then a0 else d := fun d => by simp only [orig, hq, origOf]
      have mem : ∀ d c, (Loc.t d, c) ∈ ownAfter (some (i0, a0, d0)) l s.own → (d = d0 ∧ (Loc.t a0, c) ∈ s.own) ∨ (d ≠ d0 ∧ d ≠ a0 ∧ (Loc.t d, c) ∈ s.own ∧ anyD d l = false) := by
        intro d c hm
        rcases List.mem_append.1 hm with hm | hm
        · left
          cases ho : ownOf a0 s.own with
          | none => rw [ho] at hm; cases hm
          | some c0 =>
            rw [ho] at hm
            simp only [thr, List.mem_singleton, Prod.mk.injEq, Loc.t.injEq] at hm
            obtain ⟨rfl, rfl⟩ := hm
            exact ⟨rfl, mem_take_own ho⟩
        · right
          obtain ⟨hm1, hne⟩ := mem_dropOt hm
          obtain ⟨j, e, h1, h2⟩ := keepU_spec hm1
          cases e
          refine ⟨fun e => absurd (e ▸ hd0) (by rw [h2]; decide), fun e => hne (by rw [e]), h1, h2⟩
      refine ⟨fun q c hm => ?_, fun d d' c c' hm hm' hne => ?_⟩
      · have : ∃ d, q = .t d := by
          rcases List.mem_append.1 hm with hm | hm
          · cases ho : ownOf a0 s.own with
            | none => rw [ho] at hm; cases hm
            | some c0 => rw [ho] at hm; simp only [thr, List.mem_singleton, Prod.mk.injEq] at hm; exact ⟨_, hm.1⟩
          · obtain ⟨j, e, _, _⟩ := keepU_spec (mem_dropOt hm).1
            exact ⟨j, e⟩
        obtain ⟨d, rfl⟩ := this
        refine ⟨d, rfl, ?_⟩
        rw [ho]
        rcases mem d c hm with ⟨rfl, h1⟩ | ⟨h1, h2, h3, h4⟩
        · rw [if_pos rfl]; exact ⟨h1, hd i0 a0 d hq⟩
        · rw [if_neg h1]; exact ⟨h3, hk d h4⟩
      · rw [ho, ho]
        rcases mem d c hm with ⟨rfl, h1⟩ | ⟨h1, h2, h3, h4⟩
        · rcases mem d' c' hm' with ⟨rfl, h1'⟩ | ⟨h1', h2', h3', h4'⟩
          · exact absurd rfl hne
          · rw [if_pos rfl, if_neg h1']; exact Ne.symm h2'
        · rcases mem d' c' hm' with ⟨rfl, h1'⟩ | ⟨h1', h2', h3', h4'⟩
          · rw [if_neg h1, if_pos rfl]; exact h2
          · rw [if_neg h1, if_neg h1']; exact hne
  have tail : ∀ (fuel : Nat) (L : Array Bool) (a1 : Act) (w1 : World), Inv l l2 ops s done' mem' X' σ β w L a1 w1 → (∀ j, L.getD j false = true → j < l.length) → G L a1 → L.toList.count false = fuel →
      (∀ i, i < l.length → L.getD i false = true) → wpAny P .any ops (Post Q X s.n s.k σ β w) fuel L a1 w1 := by
    intro fuel L a1 w1 inv hlt hG hcount hall
    obtain ⟨σ1, β1, hR, hS⟩ := inv.rel
    rw [Inv.full h hall] at hR
    obtain ⟨f1, f2⟩ := fin a1 (fun i0 a0 d0 hq => hG.2 i0 a0 d0 hq (hall i0 (hmv i0 a0 d0 hq).1)) hG.1
    obtain ⟨hR2, hS2⟩ := hr.giveBack hR hS (ow := ownAfter mv l s.own) orig f1 f2
    have hLx : ∀ j, L.getD j false = decide (j < l.length) := by
      intro j
      by_cases hj : j < l.length
      · rw [hall j hj]; simp [hj]
      · cases hq : L.getD j false with
        | true => exact absurd (hlt j hq) hj
        | false => simp [hj]
    have := ops_sound (X := X) (ops.toList.drop l.length) tl l.length rfl { stL s (fun _ => true) done' mem' with own := ownAfter mv l s.own } σ1 β1 a1 w1 htl hR2 hK
    have := wpOps_post hS2 _ _ _ this
    have hlen : (ops.toList.drop l.length).length = ops.size - l.length := by simp
    rw [hlen] at this
    refine any_tail h hwt (ops.size - l.length) fuel l.length L a1 w1 ?_ (by omega) (by omega) inv.size hLx this
    rw [← hcount]
    have hd : (L.toList.drop l.length).count false = (L.toList.drop l.length).length := by
      rw [List.count_eq_length]
      intro b hb
      obtain ⟨j, hj⟩ := List.mem_iff_getElem?.1 hb
      rw [List.getElem?_drop, Array.getElem?_toList] at hj
      have := hLx (l.length + j)
      rw [Array.getD_eq_getD_getElem?, hj] at this
      rw [decide_eq_false (by omega)] at this
      simpa using this.symm
    have := (List.drop_sublist l.length L.toList).count_le false
    rw [hd] at this
    simp only [List.length_drop, Array.length_toList, inv.size] at this
    exact this
  -- whatever order the others take
  have key : ∀ (fuel : Nat) (L : Array Bool) (a1 : Act) (w1 : World), L.toList.count false = fuel → Inv l l2 ops s done' mem' X' σ β w L a1 w1 → (∀ j, L.getD j false = true → j < l.length) →
      G L a1 → wpAny P .any ops (Post Q X s.n s.k σ β w) fuel L a1 w1 := by
    intro fuel
    induction fuel with
    | zero =>
      intro L a1 w1 hcount inv hlt hG
      have hall : ∀ i, i < ops.size → L.getD i false = true := by
        intro i hi
        have hi' : i < L.size := by rw [inv.size]; exact hi
        cases hq : L.getD i false with
        | true => rfl
        | false =>
          have hv : L.toList[i]'(by simpa using hi') = false := by simpa [hi'] using hq
          have : 0 < L.toList.count false := List.count_pos_iff.2 (hv ▸ List.getElem_mem _)
          omega
      exact tail 0 L a1 w1 inv hlt hG hcount (fun i hi => hall i (by omega))
    | succ fuel ih =>
      intro L a1 w1 hcount inv hlt hG
      by_cases hall : ∀ i, i < l.length → L.getD i false = true
      · exact tail (fuel + 1) L a1 w1 inv hlt hG hcount hall
      · have noTail : ∀ i, i ∈ Region.ready .any ops L → i < l.length := by
          intro i hi
          rcases Nat.lt_or_ge i l.length with q | q
          · exact q
          · exact absurd (fun j hj => h.waits hwt inv.closed hi (by omega) j (by omega)) hall
        refine ⟨fun hrd => ?_, fun i hi => ?_⟩
        · have := all_of_ready h inv.size hrd
          exact absurd (fun i hi => this i (by omega)) hall
        · have hi1 := noTail i hi
          obtain ⟨hun, o, hoi, _⟩ := mem_ready.1 hi
          obtain ⟨x, hx, hxd⟩ := dst i o hi1 hoi
          have step : ∀ (a' : Act) (w' : World), Inv l l2 ops s done' mem' X' σ β w (L.setIfInBounds i true) a' w' → G (L.setIfInBounds i true) a' → wpAny P .any ops (Post Q X s.n s.k σ β w) fuel (L.setIfInBounds i true) a' w' := by
            intro a' w' inv' h1
            refine ih _ a' w' (by have := count_set hun; omega) inv' ?_ h1
            intro j hj
            by_cases e : j = i
            · omega
            · rw [getD_set_ne false (Ne.symm e)] at hj; exact hlt j hj
          have keep : ∀ (a' : Act) (u : Value) (t : Nat), a'.tmps = (a1.put o.dst u).tmps → o.dst ≠ some t → a'.tmps.getD t undef = a1.tmps.getD t undef := by
            intro a' u t e hne
            rw [e]
            cases hd : o.dst with
            | none => rfl
            | some d =>
              have : d ≠ t := fun q => hne (by rw [hd, q])
              simp only [Act.put]
              rw [Array.getD_eq_getD_getElem?, Array.getD_eq_getD_getElem?, Array.getElem?_setIfInBounds_ne this]
          have kept : ∀ (a' : Act) (u : Value), a'.tmps = (a1.put o.dst u).tmps → ∀ j, anyD j l = false → a'.tmps.getD j undef = a.tmps.getD j undef := fun a' u e j hj =>
            (keep a' u j e (by rw [← hxd]; exact anyD_spec hj x (List.mem_of_getElem? hx))).trans (hG.1 j hj)
          have one := inv.one h hi1 hi (Q := Post Q X s.n s.k σ β w)
          by_cases e : ∃ a0 d0, mv = some (i, a0, d0)
          · obtain ⟨a0, d0, hq⟩ := e
            obtain ⟨g1, g2, ⟨x0, gx, gd⟩, g4⟩ := hmv i a0 d0 hq
            rw [hx] at gx; cases gx
            have hd : o.dst = some d0 := by rw [← hxd]; exact gd
            refine wpOp_mono ?_ (wpOp_move g2 hoi one)
            rintro a' w' ⟨inv', rfl⟩
            refine step _ w' inv' ⟨kept _ _ rfl, ?_⟩
            intro i0' a0' d0' hq' _
            rw [hq] at hq'; cases hq'
            have hlt0 : d0 < a1.tmps.size := by
              obtain ⟨σ1, β1, hR, _⟩ := inv.rel
              rw [hR.size]
              obtain ⟨_, _, hf, _, _⟩ := h.fact hoi
              exact (dst_lt hf.ok).1 d0 hd
            rw [hd]
            simp only [Act.put]
            rw [getD_set _ _ _ _ hlt0, if_pos rfl]
            have ha0 : anyD a0 l = false := by
              cases e : anyD a0 l with
              | false => rfl
              | true =>
                have : ∀ l : List DO, anyD a0 l = true → ∃ x, x ∈ l ∧ x.o.d = some a0 := by
                  intro l
                  induction l with
                  | nil => intro h; cases h
                  | cons y r ih =>
                    intro h
                    simp only [anyD] at h
                    cases hy : isDst a0 y with
                    | true =>
                      refine ⟨y, .head _, ?_⟩
                      unfold isDst at hy
                      split at hy
                      · rename_i e he; rw [he, Nat.eq_of_beq_eq_true hy]
                      · cases hy
                    | false =>
                      rw [hy] at h
                      obtain ⟨z, hz, hz2⟩ := ih h
                      exact ⟨z, .tail _ hz, hz2⟩
                obtain ⟨z, hz, hz2⟩ := this l e
                exact absurd hz2 (g4 z hz)
            exact hG.1 a0 ha0
          · refine wpOp_mono ?_ (wpOp_put1 hoi one)
            rintro a' w' ⟨inv', u, hu⟩
            refine step _ w' inv' ⟨kept _ u hu, ?_⟩
            intro i0 a0 d0 hq hl
            have hne : i ≠ i0 := fun q => e ⟨a0, d0, by rw [q]; exact hq⟩
            rw [getD_set_ne false hne] at hl
            obtain ⟨g1, g2, ⟨x0, gx, gd⟩, g4⟩ := hmv i0 a0 d0 hq
            refine (keep _ u d0 hu ?_).trans (hG.2 i0 a0 d0 hq hl)
            rw [← hxd]
            exact fun q => okP_dst (h.two gx hx hne) gd q
  have hnone : ∀ i, (Array.replicate ops.size false).getD i false = false := getD_replicate_false _
  refine wp_region_any hm (key _ _ _ _ (by simp) ⟨by simp, fun k x _ hl => (by have hl := (hnone k).symm.trans hl; cases hl), σ, β, ?_, ?_⟩ (fun j hj => by have hj := (hnone j).symm.trans hj; cases hj)
    ⟨fun j _ => rfl, fun i0 _ _ _ hj => by have hj := (hnone i0).symm.trans hj; cases hj⟩)
  · have hr2 := hr'.heapEq (w' := { w with drawn := w.drawn + 1 }) rfl
    refine hr2.sub rfl ?_ (fun i => .inr ?_) (fun p hp => by cases hp)
    · show memIn _ mem' s.bx = s.bx
      have : ∀ (m : List (Nat × List (Nat × List A))), memIn (fun i => (Array.replicate ops.size false).getD i false) m s.bx = s.bx := by
        intro m
        induction m with
        | nil => rfl
        | cons p r ih => obtain ⟨q, c⟩ := p; simp only [memIn, hnone, cond_false]; simpa only [hnone] using ih
      exact this mem'
    · show look i (tmpsIn _ done' s.t) = look i s.t
      have : ∀ (m : List (Nat × Option Nat × A)), tmpsIn (fun i => (Array.replicate ops.size false).getD i false) m s.t = s.t := by
        intro m
        induction m with
        | nil => rfl
        | cons p r ih =>
          obtain ⟨q, d, c⟩ := p
          cases d with
          | none => exact ih
          | some d => simp only [tmpsIn, hnone, cond_false]; simpa only [hnone] using ih
      rw [this done']
  · exact Step.heapEq X' s.k σ β rfl rfl rfl rfl

end

end Go.Vx

/- Conditions for code; their soundness. -/
namespace Go.Vx
set_option linter.unusedVariables false
set_option linter.unusedSimpArgs false
open Go

/-- A loop, or any other piece of code, by its meaning. -/
def TrA (P : Program) (ows : List (FuncId × Nat)) (c : AC) (s : St) (Q : AX → St → Prop) : Prop := ∀ code, comp P ows s.n code = some c → Tr P code s Q

def vc (P : Program) (ows : List (FuncId × Nat)) : AC → St → (AX → St → Prop) → Prop
  | .skip, s, Q => Q .normal s
  | .reg ops, s, Q => vcOps P ops s Q
  | .draw ops, s, Q => vcDS P ops s (withO (keepU ops s.own) (Q .normal))
  | .drawo pre a d tl, s, Q => vcDS P pre s (withO (thr (ownOf a s.own) d ++ dropOt a (keepU pre s.own)) (fun s' => vcOps P tl s' Q))
  | .seq a b, s, Q => vc P ows a s (AX.thn (fun s' => vc P ows b s' Q) Q)
  | .cond x a b, s, Q => match s.ev x with
    | .d (.bool c) => (c = true → vc P ows a s Q) ∧ (c = false → vc P ows b s Q)
    | _ => False
  | .block id c, s, Q => vc P ows c s (AX.blk id Q)
  | .loop c, s, Q => TrA P ows (.loop c) s Q
  | .exit id, s, Q => Q (.exit id) s
  | .ret, s, Q => Q .ret s
  | .label _, s, Q => Q .normal s
  | .goto l, s, Q => Q (.goto l) s

section
variable {P : Program} {X : Ctx} {σ : Store} {β : Names} {s : St} {a : Act} {w : World}

theorem ds_own {l : List DO} {s : St} {K : St → Prop} (h : vcDS P l s K) : vcDS P l { s with own := [] } K := by
  cases l with
  | nil => exact h
  | cons x r => exact h

theorem vc_sound {ows : List (FuncId × Nat)} : ∀ (code : Code) (c : AC) (s : St) (Q : AX → St → Prop), comp P ows s.n code = some c → vc P ows c s Q → Tr P code s Q := by
  intro code
  induction code with
  | skip => intro c s Q hc hv; simp only [comp, Option.some.injEq] at hc; subst hc; exact Tr.skip hv
  | region id ops draw =>
    intro c s Q hc hv
    cases draw with
    | true =>
      simp only [comp] at hc
      split at hc
      · rename_i hm
        split at hc
        · rename_i l hl
          split at hc
          · rename_i ho
            split at hc
            · rename_i p i0 a0 d0 hcut
              obtain ⟨tl, htl, hq⟩ := Option.map_eq_some_iff.1 hc
              subst hq
              obtain ⟨hok, hmv, hdst⟩ := cut_spec hcut
              simp only [cutOk, Bool.and_eq_true] at hok
              obtain ⟨⟨⟨⟨hip, hpl⟩, hna⟩, hwt⟩, _⟩ := hok
              have hip : i0 < p := by rw [Nat.blt_eq] at hip; exact hip
              have hpl : p < l.length := by rw [Nat.blt_eq] at hpl; exact hpl
              have hlp : (l.take p).length = p := by rw [List.length_take]; omega
              obtain ⟨m0, x0, e0, hx0, hxd⟩ := dstAt_spec l 0 i0 hdst
              have e0 : i0 = m0 := by omega
              subst e0
              refine drawg_sound (mv := some (i0, a0, d0)) (l := l.take p) (l2 := l.drop p) hm (by rw [List.take_append_drop]; exact hl) (by rw [List.take_append_drop]; exact ho.1) (fun x hx => List.all_eq_true.1 hwt x hx) ?_ (by rw [hlp]; exact htl)
                (seq_draw (n := s.n) (k := s.k) (t0 := s.t) (bx0 := s.bx) (own0 := s.own) _ Pre.nil (cut_okS hcut) (ds_own hv))
              rintro i' a' d' e
              cases e
              refine ⟨by omega, hmv, ⟨x0, by rw [List.getElem?_take, if_pos hip]; exact hx0, hxd⟩, fun x hx e => ?_⟩
              have := List.all_eq_true.1 hna x hx
              unfold isDst at this
              rw [e] at this
              simp at this
            · cases hc
              have hlen : l.length = ops.size := by have := (compD_facts _ _ _ _ hl (fun j A hj => by simp [lookN] at hj)).1; simpa using this
              refine drawg_sound (mv := none) (l := l) (l2 := []) (tl := []) hm (by simpa using hl) (by simpa using ho.1) (fun x hx => by cases hx) (fun _ _ _ e => by cases e) ?_
                (seq_draw (n := s.n) (k := s.k) (t0 := s.t) (bx0 := s.bx) (own0 := s.own) l Pre.nil ho.2 (ds_own hv))
              rw [List.drop_of_length_le (by simp [hlen])]
              rfl
          · cases hc
        · cases hc
      · cases hc
    | false =>
      simp only [comp] at hc
      obtain ⟨l, hl, hq⟩ := Option.map_eq_some_iff.1 hc
      subst hq
      intro X σ β a w h
      have := ops_sound (X := X) ops.toList l 0 (by simp) s σ β a w hl h hv
      refine wp_region ?_
      rw [List.range_eq_range']
      simpa using this
  | seq x y ihx ihy =>
    intro c s Q hc hv
    simp only [comp] at hc
    obtain ⟨cx, hx, hc1⟩ := bind_some hc
    obtain ⟨cy, hy, hc2⟩ := bind_some hc1
    cases hc2
    refine Tr.seq (Tr.mono (ihx cx s _ hx hv) ?_)
    intro ax s' q
    cases ax with
    | normal => exact fun hn _ => ihy cy s' Q (by rw [hn]; exact hy) q
    | exit i => exact q
    | goto i => exact q
    | ret => exact q
    | panic x => exact q
  | cond x a b iha ihb =>
    intro c s Q hc hv
    simp only [comp] at hc
    obtain ⟨x', hx, hc1⟩ := bind_some hc
    obtain ⟨ca, ha, hc2⟩ := bind_some hc1
    obtain ⟨cb, hb, hc3⟩ := bind_some hc2
    cases hc3
    simp only [vc] at hv
    split at hv
    · rename_i t ht
      refine Tr.cond (t := t) ?_ (fun e => iha ca s Q ha (hv.1 e)) (fun e => ihb cb s Q hb (hv.2 e))
      intro X σ β a w h
      have := ev_ok h hx
      rw [ht] at this
      exact ra_bool this
    · exact hv.elim
  | block id x ih =>
    intro c s Q hc hv
    simp only [comp] at hc
    obtain ⟨cx, hx, hc1⟩ := bind_some hc
    cases hc1
    exact Tr.block (ih cx s _ hx hv)
  | loop x ih =>
    intro c s Q hc hv
    simp only [comp] at hc
    obtain ⟨cx, hx, hc1⟩ := bind_some hc
    cases hc1
    exact hv _ (by simp only [comp, hx]; rfl)
  | exit id => intro c s Q hc hv; simp only [comp, Option.some.injEq] at hc; subst hc; exact Tr.exit hv
  | ret => intro c s Q hc hv; simp only [comp, Option.some.injEq] at hc; subst hc; exact Tr.ret hv
  | label l => intro c s Q hc hv; simp only [comp, Option.some.injEq] at hc; subst hc; exact Tr.label hv
  | goto l => intro c s Q hc hv; simp only [comp, Option.some.injEq] at hc; subst hc; exact Tr.goto hv
  | rangeFunc => intro c s Q hc; simp [comp] at hc
  | scope => intro c s Q hc; simp [comp] at hc
  | refuse => intro c s Q hc; simp [comp] at hc

/-- A loop: each round goes to a state of the family, at a smaller measure. -/
theorem loop_rule {ows : List (FuncId × Nat)} {ι : Type} (mk : ι → St) (μ : ι → Nat) (i0 : ι) {c : AC} {s : St} {Q : AX → St → Prop} (h0 : Weak s (mk i0)) (hn : ∀ i, (mk i).n = s.n ∧ (mk i).k = s.k)
    (round : ∀ i, vc P ows c (mk i) (AX.thn (fun s' => ∃ j, μ j < μ i ∧ Weak s' (mk j)) Q)) : TrA P ows (.loop c) s Q := by
  intro code hc
  cases code with
  | loop x =>
    simp only [comp] at hc
    obtain ⟨cx, hx, hc1⟩ := bind_some hc
    cases hc1
    refine Tr.weak h0 ?_
    refine Tr.loop (fun m s' => ∃ i, μ i = m ∧ Weak s' (mk i) ∧ s'.n = s.n ∧ s'.k = s.k) (μ i0) ⟨i0, rfl, Weak.refl _, hn i0⟩ ?_ ?_
    · rintro m s' ⟨i, _, _, e1, e2⟩
      exact ⟨e1.trans (hn i0).1.symm, e2.trans (hn i0).2.symm⟩
    · rintro m s' ⟨i, rfl, hw, e1, e2⟩
      refine Tr.weak hw ?_
      have := vc_sound x c (mk i) _ (by rw [(hn i).1]; exact hx) (round i)
      intro X σ β a w hr
      refine wp_mono (this X σ β a w hr) ?_
      rintro e a' w' ⟨ax, s2, σ2, β2, q, q1, q2, ex, r, st⟩
      cases ax with
      | normal =>
        obtain ⟨j, hlt, hwj⟩ := q
        exact ⟨.normal, s2, σ2, β2, ⟨μ j, hlt, j, rfl, hwj, q1.trans (hn i).1, q2.trans (hn i).2⟩, q1, q2, ex, r, st⟩
      | exit i => exact ⟨.exit i, s2, σ2, β2, q, q1, q2, ex, r, st⟩
      | goto i => exact ⟨.goto i, s2, σ2, β2, q, q1, q2, ex, r, st⟩
      | ret => exact ⟨.ret, s2, σ2, β2, q, q1, q2, ex, r, st⟩
      | panic x => exact ⟨.panic x, s2, σ2, β2, q, q1, q2, ex, r, st⟩
  | skip => simp [comp] at hc
  | region id ops draw =>
    cases draw with
    | false => simp [comp] at hc
    | true =>
      simp only [comp] at hc
      split at hc
      · split at hc
        · split at hc
          · split at hc
            · obtain ⟨tl, htl, hq⟩ := Option.map_eq_some_iff.1 hc
              cases hq
            · cases hc
          · cases hc
        · cases hc
      · cases hc
  | seq x y =>
    simp only [comp] at hc
    obtain ⟨cx, hx, hc1⟩ := bind_some hc
    obtain ⟨cy, hy, hc2⟩ := bind_some hc1
    cases hc2
  | cond x y z =>
    simp only [comp] at hc
    obtain ⟨cx, hx, hc1⟩ := bind_some hc
    obtain ⟨cy, hy, hc2⟩ := bind_some hc1
    obtain ⟨cz, hz, hc3⟩ := bind_some hc2
    cases hc3
  | block id x =>
    simp only [comp] at hc
    obtain ⟨cx, hx, hc1⟩ := bind_some hc
    cases hc1
  | exit => simp [comp] at hc
  | ret => simp [comp] at hc
  | label => simp [comp] at hc
  | goto => simp [comp] at hc
  | rangeFunc => simp [comp] at hc
  | scope => simp [comp] at hc
  | refuse => simp [comp] at hc

end
end Go.Vx
