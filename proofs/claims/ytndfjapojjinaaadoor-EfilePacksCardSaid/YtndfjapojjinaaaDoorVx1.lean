/- The base of a value-level logic over the walk's calculus: abstract values, stable memory, abstract states and how a frame and a world are described by one. -/
import Derived.Calls
import Derived.Deep.LoopGhost
import Derived.Laws.World
import Derived.Laws.IdiomCopy
import Derived.Laws.AppendOwn
import GoSem.Dispatch
import Derived.Laws.Cells
import Derived.ChangeKeysEq
import Derived.Laws.Strings
import Derived.Great.BuildSlice
import Derived.Laws.BytesArg
import Derived.Laws.Slices
namespace Go.Vx
set_option linter.unusedVariables false
set_option linter.unusedSimpArgs false
open Go

/-- No slice is longer than this. -/
def maxL : Nat := 140737488355328

/-- Stable data. -/
inductive D where
  | int (k : IntKind) (n : Int)
  | bool (b : Bool)
  | str (s : List UInt8)
  | sl (c : Nat) (es : List (List D))
  | nilp
  | nilif
  | nilfn
  | iface (t : TypeId) (ag : Bool) (cs : List D)
  deriving Inhabited

/-- What a temporary or a variable's cell holds, abstractly. -/
inductive A where
  | any
  | d (x : D)
  | ptr (n off : Nat)
  | agg (cs : List A)
  | clo (f : FuncId) (caps : List A)
  | tup (vs : List A)
  | bsl (n off len cap : Nat)
  | ep (e : List D)
  | nil (c : Nat)
  | ful (c : Nat) (es : List (List D))
  deriving Inhabited

/-- Cells that hold what they hold for ever. -/
abbrev Store := Nat → Nat → Option Value

def Store.le (s t : Store) : Prop := ∀ b o v, s b o = some v → t b o = some v

theorem Store.le_refl (s : Store) : s.le s := fun _ _ _ h => h
theorem Store.le_trans {s t u : Store} (h : s.le t) (k : t.le u) : s.le u := fun _ _ _ e => k _ _ _ (h _ _ _ e)

inductive Reads (σ : Store) : D → Value → Prop
  | int (k : IntKind) (n : Int) : Reads σ (.int k n) (.int k n)
  | bool (b : Bool) : Reads σ (.bool b) (.bool b)
  | str (s : List UInt8) (h : s.length ≤ maxL) : Reads σ (.str s) (.string ⟨s.toArray⟩)
  | slnil (c : Nat) : Reads σ (.sl c []) (.slice none 0 0)
  | slodd (c : Nat) (a : Addr) : Reads σ (.sl c []) (.slice (some a) 0 0)
  | sl (c : Nat) (es : List (List D)) (b off cap : Nat) (f : Nat → Nat → Value) (hl : es.length ≤ maxL) (hcap : es.length ≤ cap)
      (hc : ∀ e, e ∈ es → e.length = c)
      (hs : ∀ i e, es[i]? = some e → ∀ j x, e[j]? = some x → σ b (off + i * c + j) = some (f i j))
      (hr : ∀ i e, es[i]? = some e → ∀ j x, e[j]? = some x → Reads σ x (f i j)) :
      Reads σ (.sl c es) (.slice (some ⟨b, off, none⟩) es.length cap)
  | nilp : Reads σ .nilp (.pointer none)
  | nilif : Reads σ .nilif .nilIface
  | nilfn : Reads σ .nilfn .nilFunc
  | iface1 (t : TypeId) (x : D) (v : Value) (h : Reads σ x v) : Reads σ (.iface t false [x]) (.iface t v)
  | ifaceN (t : TypeId) (cs : List D) (vs : Array Value) (hn : cs.length = vs.size)
      (h : ∀ i x, cs[i]? = some x → Reads σ x (vs.getD i undef)) : Reads σ (.iface t true cs) (.iface t (.agg vs))

theorem Reads.mono {σ τ : Store} (hle : σ.le τ) {x : D} {v : Value} (h : Reads σ x v) : Reads τ x v := by
  induction h with
  | int k n => exact .int k n
  | bool b => exact .bool b
  | str s h => exact .str s h
  | slnil c => exact .slnil c
  | slodd c a => exact .slodd c a
  | sl c es b off cap f hl hcap hc hs _ ih => exact .sl c es b off cap f hl hcap hc (fun i e he j x hx => hle _ _ _ (hs i e he j x hx)) ih
  | nilp => exact .nilp
  | nilif => exact .nilif
  | nilfn => exact .nilfn
  | iface1 t x v _ ih => exact .iface1 t x v ih
  | ifaceN t cs vs hn _ ih => exact .ifaceN t cs vs hn ih

abbrev Names := Nat → Option Nat
def Names.le (s t : Names) : Prop := ∀ n b, s n = some b → t n = some b

inductive RA (σ : Store) (β : Names) : A → Value → Prop
  | any (v : Value) : RA σ β .any v
  | d (x : D) (v : Value) (h : Reads σ x v) : RA σ β (.d x) v
  | ptr (n off b : Nat) (h : β n = some b) : RA σ β (.ptr n off) (.pointer (some ⟨b, off, none⟩))
  | agg (cs : List A) (vs : Array Value) (hn : cs.length = vs.size) (h : ∀ i x, cs[i]? = some x → RA σ β x (vs.getD i undef)) :
      RA σ β (.agg cs) (.agg vs)
  | clo (f : FuncId) (cs : List A) (vs : Array Value) (hn : cs.length = vs.size) (h : ∀ i x, cs[i]? = some x → RA σ β x (vs.getD i undef)) :
      RA σ β (.clo f cs) (.func (.func f) #[] vs)
  | tup (cs : List A) (vs : Array Value) (hn : cs.length = vs.size) (h : ∀ i x, cs[i]? = some x → RA σ β x (vs.getD i undef)) :
      RA σ β (.tup cs) (.tuple vs)
  | bsl (n off len cap b : Nat) (h : β n = some b) : RA σ β (.bsl n off len cap) (.slice (some ⟨b, off, none⟩) len cap)
  | ep (e : List D) (b off : Nat) (f : Nat → Value) (hs : ∀ j x, e[j]? = some x → σ b (off + j) = some (f j)) (hr : ∀ j x, e[j]? = some x → Reads σ x (f j)) :
      RA σ β (.ep e) (.pointer (some ⟨b, off, none⟩))
  | nil (c : Nat) : RA σ β (.nil c) (.slice none 0 0)
  | ful (c : Nat) (es : List (List D)) (v : Value) (h : Reads σ (.sl c es) v) (hf : ∀ a len cap, v = .slice a len cap → cap ≤ len) : RA σ β (.ful c es) v

theorem RA.mono {σ τ : Store} {β γ : Names} (h1 : σ.le τ) (h2 : β.le γ) {x : A} {v : Value} (h : RA σ β x v) : RA τ γ x v := by
  induction h with
  | any v => exact .any v
  | d x v h => exact .d x v (h.mono h1)
  | ptr n off b h => exact .ptr n off b (h2 _ _ h)
  | agg cs vs hn _ ih => exact .agg cs vs hn ih
  | clo f cs vs hn _ ih => exact .clo f cs vs hn ih
  | tup cs vs hn _ ih => exact .tup cs vs hn ih
  | bsl n off len cap b h => exact .bsl n off len cap b (h2 _ _ h)
  | ep e b off f hs hr => exact .ep e b off f (fun j x hx => h1 _ _ _ (hs j x hx)) (fun j x hx => (hr j x hx).mono h1)
  | nil c => exact .nil c
  | ful c es v h hf => exact .ful c es v (h.mono h1) hf

inductive Loc where
  | t (i : Nat)
  | b (n off : Nat)
  deriving DecidableEq, Inhabited

/-- The abstract state: how many temporaries; below which number the boxes are the caller's; the temporaries that are known; the boxes; where owned slices lie. -/
structure St where
  n : Nat
  k : Nat
  t : List (Nat × A)
  bx : List (Nat × List A)
  own : List (Loc × Nat)
  deriving Inhabited

def look (i : Nat) : List (Nat × A) → A
  | [] => .any
  | p :: l => bif i == p.1 then p.2 else look i l

def lookB (n : Nat) : List (Nat × List A) → Option (List A)
  | [] => none
  | p :: l => bif n == p.1 then some p.2 else lookB n l

def dropB (n : Nat) : List (Nat × List A) → List (Nat × List A)
  | [] => []
  | p :: l => bif n == p.1 then dropB n l else p :: dropB n l

theorem lookB_dropB (n m : Nat) (l : List (Nat × List A)) : lookB n (dropB m l) = if n = m then none else lookB n l := by
  induction l with
  | nil => simp [dropB, lookB]
  | cons p l ih =>
    unfold dropB
    by_cases h : m = p.1
    · have : (m == p.1) = true := by simpa using h
      rw [this]
      simp only [cond_true, ih]
      by_cases hn : n = m
      · simp [hn]
      · have : (n == p.1) = false := by simp; omega
        simp [hn, lookB, this]
    · have : (m == p.1) = false := by simpa using h
      rw [this]
      simp only [cond_false]
      unfold lookB
      by_cases hp : n = p.1
      · have e : (n == p.1) = true := by simpa using hp
        have : n ≠ m := by omega
        simp [e, this]
      · have e : (n == p.1) = false := by simpa using hp
        simp only [e, cond_false, ih]

/-- Where the value of a place stands. -/
def locVal (β : Names) (a : Act) (w : World) : Loc → Option Value
  | .t i => some (a.tmps.getD i undef)
  | .b n off => (β n).bind fun b => w.cell? ⟨b, off, none⟩

def locA (s : St) : Loc → A
  | .t i => look i s.t
  | .b n off => match lookB n s.bx with
    | some cs => cs.getD off .any
    | none => .any

/-- The blocks that a call may not touch; and what its frame has put off. -/
structure Ctx where
  b : Nat → Prop
  df : List Deferred

instance : CoeFun Ctx (fun _ => Nat → Prop) := ⟨Ctx.b⟩

/-- The mark of a block whose 'n' cells are not frozen. -/
def Unf (n : Nat) (fz : Nat × Nat) : Prop := fz.1 = fz.2 ∨ n ≤ fz.1

theorem Unf.frozen {w : World} {b : Nat} {arr : Array Value} {T : TypeId} {fz : Nat × Nat} (h : Unf arr.size fz) (hh : w.heap[b]? = some (.cells arr T fz)) {o : Nat} (ho : o < arr.size) :
    w.frozen? ⟨b, o, none⟩ = false := by
  simp only [World.frozen?, hh]
  rcases h with h | h <;> simp <;> omega

/-- A box in memory. -/
def Box (X : Ctx) (σ : Store) (β : Names) (w : World) (n : Nat) (cs : List A) : Prop :=
  ∃ b arr T fz, β n = some b ∧ w.heap[b]? = some (.cells arr T fz) ∧ arr.size = cs.length ∧ (∀ j x, cs[j]? = some x → RA σ β x (arr.getD j undef)) ∧
    ¬ X b ∧ (∀ o, σ b o = none) ∧ Unf arr.size fz

/-- A slice value behind which there is room that is nobody else's. -/
def OwnV (X : Ctx) (σ : Store) (β : Names) (w : World) (c : Nat) (v : Value) : Prop :=
  ∀ b off len cap, v = .slice (some ⟨b, off, none⟩) len cap → len < cap →
    (∃ arr T fz, w.heap[b]? = some (.cells arr T fz) ∧ off + cap * c ≤ arr.size ∧ Unf arr.size fz) ∧
    (∀ o, off + len * c ≤ o → σ b o = none) ∧ ¬ X b ∧ ∀ n, β n ≠ some b

def ownB : Value → Option Nat
  | .slice (some ⟨b, _, none⟩) len cap => if len < cap then some b else none
  | _ => none

structure Rel (X : Ctx) (σ : Store) (β : Names) (s : St) (a : Act) (w : World) : Prop where
  size : a.tmps.size = s.n
  defs : a.defers = X.df
  tmp : ∀ i, RA σ β (look i s.t) (a.tmps.getD i undef)
  st : ∀ b o v, σ b o = some v → w.cell? ⟨b, o, none⟩ = some v
  xs : ∀ b, X b → b < w.heap.size
  box : ∀ n cs, lookB n s.bx = some cs → Box X σ β w n cs
  dom : ∀ n b, β n = some b → ∃ cs, lookB n s.bx = some cs
  inj : ∀ n m b, β n = some b → β m = some b → n = m
  own : ∀ l c, (l, c) ∈ s.own → ∃ v, locVal β a w l = some v ∧ OwnV X σ β w c v
  sep : ∀ l c l' c', (l, c) ∈ s.own → (l', c') ∈ s.own → l ≠ l' → ∀ v v' b, locVal β a w l = some v → locVal β a w l' = some v' → ownB v = some b → ownB v' ≠ some b

/-- The same object, but for a mark behind its end. -/
def Alike (o o' : Option Obj) : Prop :=
  o' = o ∨ ∃ arr T fz fz', o = some (.cells arr T fz) ∧ o' = some (.cells arr T fz') ∧ (Unf arr.size fz → Unf arr.size fz')

theorem Alike.refl (o : Option Obj) : Alike o o := .inl rfl

theorem Alike.trans {a b c : Option Obj} (h : Alike a b) (g : Alike b c) : Alike a c := by
  rcases h with rfl | ⟨arr, T, fz, fz', rfl, rfl, h⟩
  · exact g
  · rcases g with rfl | ⟨arr2, T2, fz2, fz3, e1, rfl, g⟩
    · exact .inr ⟨arr, T, fz, fz', rfl, rfl, h⟩
    · cases e1
      exact .inr ⟨arr, T, fz, fz3, rfl, rfl, fun q => g (h q)⟩

theorem Alike.cell {w w' : World} {b : Nat} (h : Alike w.heap[b]? w'.heap[b]?) (o : Nat) : w'.cell? ⟨b, o, none⟩ = w.cell? ⟨b, o, none⟩ := by
  rcases h with h | ⟨arr, T, fz, fz', h1, h2, _⟩
  · simp [World.cell?, h]
  · simp [World.cell?, h1, h2]

theorem Alike.cells {o o' : Option Obj} (h : Alike o o') {arr : Array Value} {T : TypeId} {fz : Nat × Nat} (hh : o = some (.cells arr T fz))
    (hf : Unf arr.size fz) : ∃ fz', o' = some (.cells arr T fz') ∧ Unf arr.size fz' := by
  rcases h with h | ⟨arr', T', fz1, fz2, h1, h2, h3⟩
  · exact ⟨fz, h.trans hh, hf⟩
  · rw [hh] at h1
    cases h1
    exact ⟨fz2, h2, h3 hf⟩

/-- What a part of a run leaves alone. -/
structure Step (X : Ctx) (k : Nat) (σ : Store) (β : Names) (w : World) (σ' : Store) (β' : Names) (w' : World) : Prop where
  le : σ.le σ'
  xs : ∀ b, X b → w'.heap[b]? = w.heap[b]? ∧ ∀ o, σ' b o = σ b o
  size : w.heap.size ≤ w'.heap.size
  os : w'.os = w.os
  tape : w'.tape = w.tape
  output : w'.output = w.output
  names : ∀ n, n < k → β' n = β n

theorem Step.refl (X : Ctx) (k : Nat) (σ : Store) (β : Names) (w : World) : Step X k σ β w σ β w :=
  ⟨Store.le_refl _, fun _ _ => ⟨rfl, fun _ => rfl⟩, Nat.le_refl _, rfl, rfl, rfl, fun _ _ => rfl⟩

theorem Step.trans {X : Ctx} {k : Nat} {σ σ' σ'' : Store} {β β' β'' : Names} {w w' w'' : World} (h : Step X k σ β w σ' β' w')
    (g : Step X k σ' β' w' σ'' β'' w'') : Step X k σ β w σ'' β'' w'' :=
  ⟨Store.le_trans h.le g.le, fun b hb => ⟨(g.xs b hb).1.trans (h.xs b hb).1, fun o => ((g.xs b hb).2 o).trans ((h.xs b hb).2 o)⟩, Nat.le_trans h.size g.size,
    g.os.trans h.os, g.tape.trans h.tape, g.output.trans h.output, fun n hn => (g.names n hn).trans (h.names n hn)⟩

theorem cell_of_heap {w w' : World} {b : Nat} (h : w'.heap[b]? = w.heap[b]?) (o : Nat) : w'.cell? ⟨b, o, none⟩ = w.cell? ⟨b, o, none⟩ := by
  simp [World.cell?, h]

theorem frozen_of_heap {w w' : World} {b : Nat} (h : w'.heap[b]? = w.heap[b]?) (o : Nat) : w'.frozen? ⟨b, o, none⟩ = w.frozen? ⟨b, o, none⟩ := by
  simp [World.frozen?, h]

theorem lt_of_cell {w : World} {b o : Nat} {v : Value} (h : w.cell? ⟨b, o, none⟩ = some v) : b < w.heap.size := by
  unfold World.cell? at h
  split at h
  · rename_i hh; exact (Array.getElem?_eq_some_iff.1 hh).1
  · cases h

theorem lt_of_block {w : World} {b : Nat} {o : Obj} (h : w.heap[b]? = some o) : b < w.heap.size := (Array.getElem?_eq_some_iff.1 h).1

theorem cell_of_block {w : World} {b : Nat} {arr : Array Value} {T : TypeId} {fz : Nat × Nat} (h : w.heap[b]? = some (.cells arr T fz)) (o : Nat) :
    w.cell? ⟨b, o, none⟩ = arr[o]? := by simp [World.cell?, h]

/-- THE MOVE OF A WORLD: blocks outside 'dirty' stay as they are; none of the dirty ones is foreign, a box, or behind an owned place. -/
theorem Rel.move {X : Ctx} {σ : Store} {β : Names} {s : St} {a : Act} {w : World} (h : Rel X σ β s a w) {σ' : Store} {w' : World} (dirty : Nat → Prop)
    (hheap : ∀ b, ¬ dirty b → b < w.heap.size → Alike w.heap[b]? w'.heap[b]?) (hsize : w.heap.size ≤ w'.heap.size) (hle : σ.le σ')
    (hst : ∀ b o v, σ' b o = some v → w'.cell? ⟨b, o, none⟩ = some v) (hsame : ∀ b, ¬ dirty b → b < w.heap.size → ∀ o, σ' b o = σ b o)
    (hbox : ∀ b, dirty b → ∀ n, β n ≠ some b)
    (hown : ∀ l c v b, (l, c) ∈ s.own → locVal β a w l = some v → ownB v = some b → ¬ dirty b) : Rel X σ' β s a w' := by
  have boxLt : ∀ n b, β n = some b → b < w.heap.size ∧ ¬ dirty b := by
    intro n b hb
    obtain ⟨cs, hcs⟩ := h.dom n b hb
    obtain ⟨b', arr, T, fz, hb', hh, _⟩ := h.box n cs hcs
    rw [hb] at hb'; cases hb'
    exact ⟨lt_of_block hh, fun hd => hbox b hd n hb⟩
  have locSame : ∀ l, locVal β a w' l = locVal β a w l := by
    intro l
    cases l with
    | t i => rfl
    | b n off =>
      simp only [locVal]
      cases hb : β n with
      | none => rfl
      | some b =>
        obtain ⟨h1, h2⟩ := boxLt n b hb
        exact (hheap b h2 h1).cell off
  refine ⟨h.size, h.defs, fun i => (h.tmp i).mono hle (fun _ _ e => e), hst, fun b hb => Nat.lt_of_lt_of_le (h.xs b hb) hsize, ?_, h.dom, h.inj, ?_, ?_⟩
  · intro n cs hn
    obtain ⟨b, arr, T, fz, hb, hh, hsz, hr, hx, hσ, hf⟩ := h.box n cs hn
    obtain ⟨h1, h2⟩ := boxLt n b hb
    obtain ⟨fz', hh', hf'⟩ := (hheap b h2 h1).cells hh hf
    exact ⟨b, arr, T, fz', hb, hh', hsz, fun j x hx => (hr j x hx).mono hle (fun _ _ e => e), hx, fun o => (hsame b h2 h1 o).trans (hσ o), hf'⟩
  · intro l c hl
    obtain ⟨v, hv, ho⟩ := h.own l c hl
    refine ⟨v, (locSame l).trans hv, ?_⟩
    intro b off len cap e hlt
    obtain ⟨⟨arr, T, fz, hh, hsz, hf⟩, h2, h3, h4⟩ := ho b off len cap e hlt
    have hd : ¬ dirty b := hown l c v b hl hv (by simp [e, ownB, hlt])
    obtain ⟨fz', hh', hf'⟩ := (hheap b hd (lt_of_block hh)).cells hh hf
    refine ⟨⟨arr, T, fz', hh', hsz, hf'⟩, fun o ho => (hsame b hd (lt_of_block hh) o).trans (h2 o ho), h3, h4⟩
  · intro l c l' c' hl hl' hne v v' b hv hv'
    rw [locSame] at hv hv'
    exact h.sep l c l' c' hl hl' hne v v' b hv hv'

end Go.Vx

/- Moves of an abstract state and what they ask of the frame and the world. -/
namespace Go.Vx
set_option linter.unusedVariables false
set_option linter.unusedSimpArgs false
open Go

theorem getD_set (arr : Array Value) (d i : Nat) (v : Value) (hd : d < arr.size) : (arr.setIfInBounds d v).getD i undef = if i = d then v else arr.getD i undef := by
  simp only [Array.getD_eq_getD_getElem?, Array.getElem?_setIfInBounds]
  by_cases h : d = i
  · subst h; simp [hd]
  · have : ¬ i = d := fun e => h e.symm
    simp [h, this]

theorem look_cons (i j : Nat) (x : A) (l : List (Nat × A)) : look i ((j, x) :: l) = if i = j then x else look i l := by
  show (bif i == j then x else look i l) = _
  by_cases h : i = j
  · simp [h]
  · have : (i == j) = false := by simpa using h
    rw [this]; simp [h]

def dropOt (d : Nat) : List (Loc × Nat) → List (Loc × Nat)
  | [] => []
  | (.t i, c) :: l => bif i == d then dropOt d l else (.t i, c) :: dropOt d l
  | (.b n o, c) :: l => (.b n o, c) :: dropOt d l

def dropOb (m : Nat) : List (Loc × Nat) → List (Loc × Nat)
  | [] => []
  | (.t i, c) :: l => (.t i, c) :: dropOb m l
  | (.b n o, c) :: l => bif n == m then dropOb m l else (.b n o, c) :: dropOb m l

/-- One cell of a box. -/
def dropOc (m off : Nat) : List (Loc × Nat) → List (Loc × Nat)
  | [] => []
  | (.t i, c) :: l => (.t i, c) :: dropOc m off l
  | (.b n o, c) :: l => bif (n == m) && (o == off) then dropOc m off l else (.b n o, c) :: dropOc m off l

theorem mem_dropOt {d : Nat} {l : Loc} {c : Nat} {ow : List (Loc × Nat)} : (l, c) ∈ dropOt d ow → (l, c) ∈ ow ∧ l ≠ .t d := by
  induction ow with
  | nil => simp [dropOt]
  | cons p r ih =>
    obtain ⟨q, e⟩ := p
    cases q with
    | t i =>
      by_cases h : i = d
      · simp only [dropOt, h, beq_self_eq_true, cond_true]
        intro hm; exact ⟨.tail _ (ih hm).1, (ih hm).2⟩
      · have : (i == d) = false := by simpa using h
        simp only [dropOt, this, cond_false, List.mem_cons]
        rintro (hm | hm)
        · cases hm; exact ⟨.inl rfl, by simpa using h⟩
        · exact ⟨.inr (ih hm).1, (ih hm).2⟩
    | b n o =>
      simp only [dropOt, List.mem_cons]
      rintro (hm | hm)
      · cases hm; exact ⟨.inl rfl, by simp⟩
      · exact ⟨.inr (ih hm).1, (ih hm).2⟩

theorem mem_dropOb {m : Nat} {l : Loc} {c : Nat} {ow : List (Loc × Nat)} : (l, c) ∈ dropOb m ow → (l, c) ∈ ow ∧ ∀ o, l ≠ .b m o := by
  induction ow with
  | nil => simp [dropOb]
  | cons p r ih =>
    obtain ⟨q, e⟩ := p
    cases q with
    | t i =>
      simp only [dropOb, List.mem_cons]
      rintro (hm | hm)
      · cases hm; exact ⟨.inl rfl, by simp⟩
      · exact ⟨.inr (ih hm).1, (ih hm).2⟩
    | b n o =>
      by_cases h : n = m
      · simp only [dropOb, h, beq_self_eq_true, cond_true]
        intro hm; exact ⟨.tail _ (ih hm).1, (ih hm).2⟩
      · have : (n == m) = false := by simpa using h
        simp only [dropOb, this, cond_false, List.mem_cons]
        rintro (hm | hm)
        · cases hm; exact ⟨.inl rfl, by simp [h]⟩
        · exact ⟨.inr (ih hm).1, (ih hm).2⟩

theorem mem_dropOc {m off : Nat} {l : Loc} {c : Nat} {ow : List (Loc × Nat)} : (l, c) ∈ dropOc m off ow → (l, c) ∈ ow ∧ l ≠ .b m off := by
  induction ow with
  | nil => simp [dropOc]
  | cons p r ih =>
    obtain ⟨q, e⟩ := p
    cases q with
    | t i =>
      simp only [dropOc, List.mem_cons]
      rintro (hm | hm)
      · cases hm; exact ⟨.inl rfl, by simp⟩
      · exact ⟨.inr (ih hm).1, (ih hm).2⟩
    | b n o =>
      cases h : (n == m) && (o == off) with
      | true =>
        simp only [dropOc, h, cond_true]
        intro hm; exact ⟨.tail _ (ih hm).1, (ih hm).2⟩
      | false =>
        simp only [dropOc, h, cond_false, List.mem_cons]
        rintro (hm | hm)
        · cases hm
          refine ⟨.inl rfl, ?_⟩
          intro e; injection e with e1 e2
          simp [e1, e2] at h
        · exact ⟨.inr (ih hm).1, (ih hm).2⟩

/-- A temporary is written. -/
def St.set (s : St) (d : Nat) (x : A) : St := { s with t := (d, x) :: s.t, own := dropOt d s.own }

theorem Rel.put {X : Ctx} {σ : Store} {β : Names} {s : St} {a : Act} {w : World} (h : Rel X σ β s a w) {d : Nat} {x : A} {v : Value} (hd : d < s.n)
    (hx : RA σ β x v) : Rel X σ β (s.set d x) (a.put (some d) v) w := by
  have hd' : d < a.tmps.size := h.size ▸ hd
  have hloc : ∀ l, l ≠ .t d → locVal β (a.put (some d) v) w l = locVal β a w l := by
    intro l hl
    cases l with
    | t i =>
      simp only [locVal, Act.put]
      rw [getD_set _ _ _ _ hd', if_neg (fun e => hl (by rw [e]))]
    | b n o => rfl
  refine ⟨by simpa [Act.put, St.set] using h.size, by simpa [Act.put] using h.defs, ?_, h.st, h.xs, h.box, h.dom, h.inj, ?_, ?_⟩
  · intro i
    show RA σ β (look i ((d, x) :: s.t)) ((a.tmps.setIfInBounds d v).getD i undef)
    rw [look_cons, getD_set _ _ _ _ hd']
    by_cases e : i = d
    · simpa [e] using hx
    · simpa [e] using h.tmp i
  · intro l c hl
    obtain ⟨hm, hne⟩ := mem_dropOt hl
    obtain ⟨v', hv, ho⟩ := h.own l c hm
    exact ⟨v', (hloc l hne).trans hv, ho⟩
  · intro l c l' c' hl hl' hne u u' b hu hu'
    obtain ⟨hm, hn1⟩ := mem_dropOt hl
    obtain ⟨hm', hn2⟩ := mem_dropOt hl'
    rw [hloc l hn1] at hu
    rw [hloc l' hn2] at hu'
    exact h.sep l c l' c' hm hm' hne u u' b hu hu'

theorem Rel.put_none {X : Ctx} {σ : Store} {β : Names} {s : St} {a : Act} {w : World} (h : Rel X σ β s a w) (v : Value) : Rel X σ β s (a.put none v) w := h

/-- Less is known. -/
theorem Rel.sub {X : Ctx} {σ : Store} {β : Names} {s s' : St} {a : Act} {w : World} (h : Rel X σ β s a w) (hn : s'.n = s.n) (hb : s'.bx = s.bx)
    (ht : ∀ i, look i s'.t = .any ∨ look i s'.t = look i s.t) (ho : ∀ p, p ∈ s'.own → p ∈ s.own) : Rel X σ β s' a w := by
  refine ⟨hn ▸ h.size, h.defs, ?_, h.st, h.xs, ?_, ?_, h.inj, fun l c hl => h.own l c (ho _ hl), fun l c l' c' hl hl' => h.sep l c l' c' (ho _ hl) (ho _ hl')⟩
  · intro i
    rcases ht i with e | e
    · rw [e]; exact .any _
    · rw [e]; exact h.tmp i
  · rw [hb]; exact h.box
  · rw [hb]; exact h.dom

/-- One place more is owned. -/
theorem Rel.addOwn {X : Ctx} {σ : Store} {β : Names} {s : St} {a : Act} {w : World} (h : Rel X σ β s a w) {l : Loc} {c : Nat} {v : Value}
    (hv : locVal β a w l = some v) (ho : OwnV X σ β w c v)
    (hs : ∀ l' c' v' b, (l', c') ∈ s.own → l' ≠ l → locVal β a w l' = some v' → ownB v' = some b → ownB v ≠ some b) :
    Rel X σ β { s with own := (l, c) :: s.own } a w := by
  refine ⟨h.size, h.defs, h.tmp, h.st, h.xs, h.box, h.dom, h.inj, ?_, ?_⟩
  · intro l' c' hl
    rcases List.mem_cons.1 hl with e | hl
    · cases e; exact ⟨v, hv, ho⟩
    · exact h.own l' c' hl
  · intro l1 c1 l2 c2 h1 h2 hne v1 v2 b hv1 hv2 hb1 hb2
    rcases List.mem_cons.1 h1 with e1 | h1 <;> rcases List.mem_cons.1 h2 with e2 | h2
    · cases e1; cases e2; exact hne rfl
    · cases e1; rw [hv] at hv1; cases hv1
      exact hs l2 c2 v2 b h2 (fun e => hne e.symm) hv2 hb2 hb1
    · cases e2; rw [hv] at hv2; cases hv2
      exact hs l1 c1 v1 b h1 hne hv1 hb1 hb2
    · exact h.sep l1 c1 l2 c2 h1 h2 hne v1 v2 b hv1 hv2 hb1 hb2

/-- Ownership goes from one place to another that holds the same value. -/
theorem Rel.moveOwn {X : Ctx} {σ : Store} {β : Names} {s : St} {a : Act} {w : World} (h : Rel X σ β s a w) {l l' : Loc} {c : Nat} {v : Value}
    (hl : (l, c) ∈ s.own) (hv : locVal β a w l = some v) (hv' : locVal β a w l' = some v) {ow : List (Loc × Nat)} (how : ∀ p, p ∈ ow → p ∈ s.own ∧ p.1 ≠ l) :
    Rel X σ β { s with own := (l', c) :: ow } a w := by
  have h1 : Rel X σ β { s with own := ow } a w := h.sub rfl rfl (fun _ => .inr rfl) (fun p hp => (how p hp).1)
  obtain ⟨v0, hv0, ho⟩ := h.own l c hl
  rw [hv] at hv0; cases hv0
  refine Rel.addOwn (s := { s with own := ow }) h1 hv' ho ?_
  intro l2 c2 v2 b h2 _ hv2 hb2
  obtain ⟨hm, hne⟩ := how _ h2
  exact h.sep l2 c2 l c hm hl hne v2 v b hv2 hv hb2

theorem heap_push_lt {w : World} {o : Obj} {b : Nat} (h : b < w.heap.size) : (w.heap.push o)[b]? = w.heap[b]? := by
  rw [Array.getElem?_push, if_neg (by omega)]

theorem heap_push_eq {w : World} {o : Obj} : (w.heap.push o)[w.heap.size]? = some o := by simp

theorem Rel.lt {X : Ctx} {σ : Store} {β : Names} {s : St} {a : Act} {w : World} (h : Rel X σ β s a w) {n b : Nat} (hb : β n = some b) : b < w.heap.size := by
  obtain ⟨cs, hcs⟩ := h.dom n b hb
  obtain ⟨b', arr, T, fz, hb', hh, _⟩ := h.box n cs hcs
  rw [hb] at hb'; cases hb'
  exact lt_of_block hh

theorem Rel.ownLt {X : Ctx} {σ : Store} {β : Names} {s : St} {a : Act} {w : World} (h : Rel X σ β s a w) {l : Loc} {c : Nat} {v : Value} {b : Nat}
    (hl : (l, c) ∈ s.own) (hv : locVal β a w l = some v) (hb : ownB v = some b) : b < w.heap.size ∧ ¬ X b ∧ ∀ n, β n ≠ some b := by
  obtain ⟨v0, hv0, ho⟩ := h.own l c hl
  rw [hv] at hv0; cases hv0
  unfold ownB at hb
  split at hb
  · rename_i bb off len cap
    split at hb
    · rename_i hlt
      cases hb
      obtain ⟨⟨arr, T, fz, hh, _⟩, _, h3, h4⟩ := ho b off len cap rfl hlt
      exact ⟨lt_of_block hh, h3, h4⟩
    · cases hb
  · cases hb

end Go.Vx

/- Moves of the world: new boxes, new slices, stores, appends in place. -/
namespace Go.Vx
set_option linter.unusedVariables false
set_option linter.unusedSimpArgs false
open Go

def updN (β : Names) (n b : Nat) : Names := fun m => if m = n then some b else β m

theorem updN_le {β : Names} {n b : Nat} (h : β n = none) : β.le (updN β n b) := by
  intro m c hm
  unfold updN
  by_cases e : m = n
  · subst e; rw [h] at hm; cases hm
  · simp [e, hm]

theorem Rel.noName {X : Ctx} {σ : Store} {β : Names} {s : St} {a : Act} {w : World} (h : Rel X σ β s a w) {n : Nat} (hn : lookB n s.bx = none) : β n = none := by
  cases hb : β n with
  | none => rfl
  | some b => obtain ⟨cs, hcs⟩ := h.dom n b hb; rw [hn] at hcs; cases hcs

theorem lookB_cons (n m : Nat) (cs : List A) (l : List (Nat × List A)) : lookB n ((m, cs) :: l) = if n = m then some cs else lookB n l := by
  show (bif n == m then some cs else lookB n l) = _
  by_cases h : n = m
  · simp [h]
  · have : (n == m) = false := by simpa using h
    rw [this]; simp [h]

/-- A box more. -/
theorem Rel.addBox {X : Ctx} {σ : Store} {β : Names} {s : St} {a : Act} {w : World} (h : Rel X σ β s a w) {n b : Nat} {cs : List A} {arr : Array Value} {T : TypeId} {fz : Nat × Nat}
    (hn : lookB n s.bx = none) (hb : ∀ m, β m ≠ some b) (hh : w.heap[b]? = some (.cells arr T fz)) (hsz : arr.size = cs.length)
    (hr : ∀ j x, cs[j]? = some x → RA σ (updN β n b) x (arr.getD j undef)) (hx : ¬ X b) (hσ : ∀ o, σ b o = none) (hf : Unf arr.size fz)
    (hown : ∀ l c v, (l, c) ∈ s.own → locVal β a w l = some v → ownB v ≠ some b) : Rel X σ (updN β n b) { s with bx := (n, cs) :: s.bx } a w := by
  have hle : β.le (updN β n b) := updN_le (h.noName hn)
  have hnn : β n = none := h.noName hn
  have locSame : ∀ l v, locVal β a w l = some v → locVal (updN β n b) a w l = some v := by
    intro l v hv
    cases l with
    | t i => exact hv
    | b m off =>
      simp only [locVal] at hv ⊢
      cases hm : β m with
      | none => rw [hm] at hv; cases hv
      | some bm => rw [hm] at hv; rw [hle m bm hm]; exact hv
  refine ⟨h.size, h.defs, fun i => (h.tmp i).mono (Store.le_refl _) hle, h.st, h.xs, ?_, ?_, ?_, ?_, ?_⟩
  · intro m ds hm
    simp only [lookB_cons] at hm
    by_cases e : m = n
    · subst e
      simp only [if_true, Option.some.injEq] at hm
      subst hm
      exact ⟨b, arr, T, fz, by simp [updN], hh, hsz, hr, hx, hσ, hf⟩
    · simp only [e, if_false] at hm
      obtain ⟨b', arr', T', fz', hb', hh', hsz', hr', hx', hσ', hf'⟩ := h.box m ds hm
      exact ⟨b', arr', T', fz', hle m b' hb', hh', hsz', fun j x hx => (hr' j x hx).mono (Store.le_refl _) hle, hx', hσ', hf'⟩
  · intro m bm hm
    simp only [lookB_cons]
    by_cases e : m = n
    · exact ⟨cs, by simp [e]⟩
    · simp only [updN, e, if_false] at hm
      obtain ⟨ds, hds⟩ := h.dom m bm hm
      exact ⟨ds, by simp [e, hds]⟩
  · intro m m' bm hm hm'
    simp only [updN] at hm hm'
    by_cases e : m = n <;> by_cases e' : m' = n
    · rw [e, e']
    · simp only [e, if_true, e', if_false, Option.some.injEq] at hm hm'
      subst hm; exact (hb m' hm').elim
    · simp only [e, if_false, e', if_true, Option.some.injEq] at hm hm'
      subst hm'; exact (hb m hm).elim
    · simp only [e, if_false, e'] at hm hm'
      exact h.inj m m' bm hm hm'
  · intro l c hl
    obtain ⟨v, hv, ho⟩ := h.own l c hl
    refine ⟨v, locSame l v hv, ?_⟩
    intro b' off len cap e hlt
    obtain ⟨h1, h2, h3, h4⟩ := ho b' off len cap e hlt
    refine ⟨h1, h2, h3, fun m hm => ?_⟩
    simp only [updN] at hm
    by_cases e' : m = n
    · simp only [e', if_true, Option.some.injEq] at hm
      subst hm
      exact hown l c v hl hv (by simp [e, ownB, hlt])
    · simp only [e', if_false] at hm
      exact h4 m hm
  · intro l c l' c' hl hl' hne v v' bb hv hv'
    obtain ⟨u, hu, _⟩ := h.own l c hl
    obtain ⟨u', hu', _⟩ := h.own l' c' hl'
    have e1 := locSame l u hu
    have e2 := locSame l' u' hu'
    rw [hv] at e1; cases e1
    rw [hv'] at e2; cases e2
    exact h.sep l c l' c' hl hl' hne v v' bb hu hu'

def setB (n : Nat) (cs : List A) : List (Nat × List A) → List (Nat × List A)
  | [] => []
  | (m, ds) :: l => bif n == m then (m, cs) :: l else (m, ds) :: setB n cs l

theorem lookB_setB (n m : Nat) (cs : List A) (l : List (Nat × List A)) : lookB n (setB m cs l) = if n = m then (lookB m l).map (fun _ => cs) else lookB n l := by
  induction l with
  | nil => simp [setB, lookB]
  | cons p l ih =>
    obtain ⟨q, ds⟩ := p
    by_cases h : m = q
    · subst h
      simp only [setB, beq_self_eq_true, cond_true, lookB_cons]
      by_cases e : n = m <;> simp [e]
    · have hq : (m == q) = false := by simpa using h
      simp only [setB, hq, cond_false, lookB_cons, ih]
      by_cases e : n = m
      · subst e; simp [h]
      · simp [e]

/-- A box is written. -/
theorem Rel.setBox {X : Ctx} {σ : Store} {β : Names} {s : St} {a : Act} {w w' : World} (h : Rel X σ β s a w) {n b : Nat} {cs cs' : List A} {arr arr' : Array Value} {T T' : TypeId} {fz fz' : Nat × Nat}
    (hn : lookB n s.bx = some cs) (hb : β n = some b) (hh : w.heap[b]? = some (.cells arr T fz)) (hw : ∀ b', b' ≠ b → w'.heap[b']? = w.heap[b']?) (hsize : w.heap.size ≤ w'.heap.size)
    (hh' : w'.heap[b]? = some (.cells arr' T' fz')) (hsz : arr'.size = cs'.length) (hr : ∀ j x, cs'[j]? = some x → RA σ β x (arr'.getD j undef))
    (hf : Unf arr'.size fz') {ow : List (Loc × Nat)}
    (how : ∀ l c, (l, c) ∈ ow → (l, c) ∈ s.own ∧ ∀ o, l = .b n o → arr'[o]? = arr[o]?) : Rel X σ β { s with bx := setB n cs' s.bx, own := ow } a w' := by
  obtain ⟨b0, arr0, T0, fz0, hb0, hh0, hsz0, hr0, hx0, hσ0, hf0⟩ := h.box n cs hn
  rw [hb] at hb0; cases hb0
  rw [hh] at hh0; cases hh0
  have other : ∀ m bm, β m = some bm → m ≠ n → bm ≠ b := fun m bm hm hne e => hne (h.inj m n b (e ▸ hm) hb)
  have locSame : ∀ l c, (l, c) ∈ ow → locVal β a w' l = locVal β a w l := by
    intro l c hl
    cases l with
    | t i => rfl
    | b m off =>
      simp only [locVal]
      cases hm : β m with
      | none => rfl
      | some bm =>
        by_cases e : m = n
        · subst e
          rw [hb] at hm; cases hm
          show w'.cell? _ = w.cell? _
          rw [cell_of_block hh', cell_of_block hh]
          exact (how _ c hl).2 off rfl
        · exact cell_of_heap (hw bm (other m bm hm e)) off
  refine ⟨h.size, h.defs, h.tmp, ?_, fun b' hb' => Nat.lt_of_lt_of_le (h.xs b' hb') hsize, ?_, ?_, h.inj, ?_, ?_⟩
  · intro b' o v hv
    have hne : b' ≠ b := by rintro rfl; rw [hσ0] at hv; cases hv
    rw [cell_of_heap (hw b' hne)]
    exact h.st b' o v hv
  · intro m ds hm
    simp only [lookB_setB] at hm
    by_cases e : m = n
    · subst e
      simp only [if_true, hn, Option.map_some, Option.some.injEq] at hm
      subst hm
      exact ⟨b, arr', T', fz', hb, hh', hsz, hr, hx0, hσ0, hf⟩
    · simp only [e, if_false] at hm
      obtain ⟨bm, arrm, Tm, fzm, hbm, hhm, hszm, hrm, hxm, hσm, hfm⟩ := h.box m ds hm
      have hne := other m bm hbm e
      exact ⟨bm, arrm, Tm, fzm, hbm, (hw bm hne).trans hhm, hszm, hrm, hxm, hσm, hfm⟩
  · intro m bm hm
    simp only [lookB_setB]
    by_cases e : m = n
    · exact ⟨cs', by simp [e, hn]⟩
    · obtain ⟨ds, hds⟩ := h.dom m bm hm
      exact ⟨ds, by simp [e, hds]⟩
  · intro l c hl
    obtain ⟨v, hv, ho⟩ := h.own l c (how l c hl).1
    refine ⟨v, (locSame l c hl).trans hv, ?_⟩
    intro b' off len cap e hlt
    obtain ⟨⟨arr1, T1, fz1, hh1, hsz1, hf1⟩, h2, h3, h4⟩ := ho b' off len cap e hlt
    have hne : b' ≠ b := fun e => h4 n (e ▸ hb)
    exact ⟨⟨arr1, T1, fz1, (hw b' hne).trans hh1, hsz1, hf1⟩, h2, h3, h4⟩
  · intro l c l' c' hl hl' hne v v' bb hv hv'
    rw [locSame l c hl] at hv
    rw [locSame l' c' hl'] at hv'
    exact h.sep l c l' c' (how l c hl).1 (how l' c' hl').1 hne v v' bb hv hv'

/-- Cells laid over an array. -/
def splice (arr : Array Value) (o : Nat) : List Value → Array Value
  | [] => arr
  | v :: r => splice (arr.setIfInBounds o v) (o + 1) r

theorem size_splice (vs : List Value) : ∀ (arr : Array Value) (o : Nat), (splice arr o vs).size = arr.size := by
  induction vs with
  | nil => intro arr o; rfl
  | cons v r ih => intro arr o; simp [splice, ih]

theorem getElem?_splice (vs : List Value) : ∀ (arr : Array Value) (o j : Nat), o + vs.length ≤ arr.size →
    (splice arr o vs)[j]? = if o ≤ j ∧ j < o + vs.length then vs[j - o]? else arr[j]? := by
  induction vs with
  | nil =>
    intro arr o j _
    have : ¬ (o ≤ j ∧ j < o + ([] : List Value).length) := by simp
    rw [if_neg this]; rfl
  | cons v r ih =>
    intro arr o j h
    simp only [List.length_cons] at h
    show (splice (arr.setIfInBounds o v) (o + 1) r)[j]? = _
    rw [ih _ _ _ (by simp; omega)]
    by_cases h1 : o + 1 ≤ j ∧ j < o + 1 + r.length
    · rw [if_pos h1, if_pos (by simp; omega)]
      rw [show j - o = (j - (o + 1)) + 1 by omega]
      rfl
    · rw [if_neg h1]
      by_cases h2 : j = o
      · subst h2
        rw [if_pos (by simp)]
        simp [Array.getElem?_setIfInBounds]; omega
      · rw [if_neg (by simp; omega)]
        rw [Array.getElem?_setIfInBounds, if_neg (by omega)]

theorem heap_setCells_same {b : Nat} {T : TypeId} {fz : Nat × Nat} : ∀ (vs : List Value) (o : Nat) (w : World) (arr : Array Value), w.heap[b]? = some (.cells arr T fz) →
    (w.setCells b o vs).heap[b]? = some (.cells (splice arr o vs) T fz)
  | [], _, _, _, h => h
  | v :: r, o, w, arr, h => by
    show ((w.setCell ⟨b, o, none⟩ v).setCells b (o + 1) r).heap[b]? = _
    refine heap_setCells_same r (o + 1) _ _ ?_
    simp [World.setCell, Array.getElem?_modify, h]

theorem heap_setCells_other {b b' : Nat} (hne : b' ≠ b) : ∀ (vs : List Value) (o : Nat) (w : World), (w.setCells b o vs).heap[b']? = w.heap[b']?
  | [], _, _ => rfl
  | v :: r, o, w => by
    show ((w.setCell ⟨b, o, none⟩ v).setCells b (o + 1) r).heap[b']? = _
    rw [heap_setCells_other hne]
    simp only [World.setCell, Array.getElem?_modify]
    rw [if_neg (fun e => hne e.symm)]

theorem setCells_rest (b : Nat) : ∀ (vs : List Value) (o : Nat) (w : World), (w.setCells b o vs).heap.size = w.heap.size ∧ (w.setCells b o vs).os = w.os ∧ (w.setCells b o vs).tape = w.tape ∧ (w.setCells b o vs).output = w.output
  | [], _, _ => ⟨rfl, rfl, rfl, rfl⟩
  | v :: r, o, w => by
    have := setCells_rest b r (o + 1) (w.setCell ⟨b, o, none⟩ v)
    simpa [World.setCells, World.setCell] using this

end Go.Vx

/- Compiled code, its conditions, and what they mean for a run. -/
namespace Go.Vx
set_option linter.unusedVariables false
set_option linter.unusedSimpArgs false
open Go

inductive AX where
  | normal
  | exit (id : Nat)
  | goto (l : Nat)
  | ret
  | panic (x : D)

def ExRel (σ : Store) : AX → Exit → Prop
  | .normal, .normal => True
  | .exit i, .exit j => i = j
  | .goto i, .goto j => i = j
  | .ret, .ret => True
  | .panic x, .panic ch => ∃ v, ch = [{ v, recovered := false }] ∧ Reads σ x v
  | _, _ => False

def Post (Q : AX → St → Prop) (X : Ctx) (n k : Nat) (σ : Store) (β : Names) (w : World) : Exit → Act → World → Prop := fun e a' w' =>
  ∃ ax s' σ' β', Q ax s' ∧ s'.n = n ∧ s'.k = k ∧ ExRel σ' ax e ∧ Rel X σ' β' s' a' w' ∧ Step X k σ β w σ' β' w'

/-- What a piece of Go code does to whatever a state describes. -/
def Tr (P : Program) (c : Code) (s : St) (Q : AX → St → Prop) : Prop :=
  ∀ X σ β a w, Rel X σ β s a w → c.wp P (Post Q X s.n s.k σ β w) a w

theorem Post.from_ {Q : AX → St → Prop} {X : Ctx} {n k : Nat} {σ σ' : Store} {β β' : Names} {w w' : World} (h : Step X k σ β w σ' β' w') {e : Exit} {a : Act} {w2 : World}
    (hp : Post Q X n k σ' β' w' e a w2) : Post Q X n k σ β w e a w2 := by
  obtain ⟨ax, s', σ2, β2, q, e1, e2, ex, r, st⟩ := hp
  exact ⟨ax, s', σ2, β2, q, e1, e2, ex, r, h.trans st⟩

theorem Tr.mono {P : Program} {c : Code} {s : St} {Q Q' : AX → St → Prop} (h : Tr P c s Q) (hq : ∀ ax s', Q ax s' → Q' ax s') : Tr P c s Q' := by
  intro X σ β a w hr
  refine wp_mono (h X σ β a w hr) ?_
  rintro e a' w' ⟨ax, s', σ', β', q, r⟩
  exact ⟨ax, s', σ', β', hq _ _ q, r⟩

/-- 'normal' goes on, all else ends. -/
def AX.thn (K : St → Prop) (Q : AX → St → Prop) : AX → St → Prop
  | .normal, s => K s
  | .exit i, s => Q (.exit i) s
  | .goto i, s => Q (.goto i) s
  | .ret, s => Q .ret s
  | .panic x, s => Q (.panic x) s

theorem Tr.skip {P : Program} {s : St} {Q : AX → St → Prop} (h : Q .normal s) : Tr P .skip s Q :=
  fun X σ β a w hr => wp_skip ⟨.normal, s, σ, β, h, rfl, rfl, trivial, hr, Step.refl _ _ _ _ _⟩

theorem Tr.ret {P : Program} {s : St} {Q : AX → St → Prop} (h : Q .ret s) : Tr P .ret s Q :=
  fun X σ β a w hr => wp_ret ⟨.ret, s, σ, β, h, rfl, rfl, trivial, hr, Step.refl _ _ _ _ _⟩

theorem Tr.exit {P : Program} {id : Nat} {s : St} {Q : AX → St → Prop} (h : Q (.exit id) s) : Tr P (.exit id) s Q :=
  fun X σ β a w hr => wp_exit ⟨.exit id, s, σ, β, h, rfl, rfl, rfl, hr, Step.refl _ _ _ _ _⟩

theorem Tr.goto {P : Program} {id : Nat} {s : St} {Q : AX → St → Prop} (h : Q (.goto id) s) : Tr P (.goto id) s Q :=
  fun X σ β a w hr => wp_goto ⟨.goto id, s, σ, β, h, rfl, rfl, rfl, hr, Step.refl _ _ _ _ _⟩

theorem Tr.label {P : Program} {id : Nat} {s : St} {Q : AX → St → Prop} (h : Q .normal s) : Tr P (.label id) s Q :=
  fun X σ β a w hr => wp_label ⟨.normal, s, σ, β, h, rfl, rfl, trivial, hr, Step.refl _ _ _ _ _⟩

theorem Tr.seq {P : Program} {c d : Code} {s : St} {Q : AX → St → Prop} (h : Tr P c s (AX.thn (fun s' => s'.n = s.n → s'.k = s.k → Tr P d s' Q) Q)) : Tr P (.seq c d) s Q := by
  intro X σ β a w hr
  refine wp_seq (wp_mono (h X σ β a w hr) ?_)
  rintro e a' w' ⟨ax, s', σ', β', q, e1, e2, ex, r, st⟩
  cases ax with
  | normal =>
    cases e <;> simp only [ExRel] at ex
    have := q e1 e2 X σ' β' a' w' r
    rw [e1, e2] at this
    exact wp_mono this (fun e a w h => Post.from_ st h)
  | exit i =>
    cases e <;> simp only [ExRel] at ex
    subst ex
    exact ⟨_, s', σ', β', q, e1, e2, rfl, r, st⟩
  | goto i =>
    cases e <;> simp only [ExRel] at ex
    subst ex
    exact ⟨_, s', σ', β', q, e1, e2, rfl, r, st⟩
  | ret =>
    cases e <;> simp only [ExRel] at ex
    exact ⟨_, s', σ', β', q, e1, e2, trivial, r, st⟩
  | panic x =>
    cases e <;> simp only [ExRel] at ex
    exact ⟨_, s', σ', β', q, e1, e2, ex, r, st⟩

def AX.blk (id : Nat) (Q : AX → St → Prop) : AX → St → Prop
  | .normal, s => Q .normal s
  | .exit i, s => bif i == id then Q .normal s else Q (.exit i) s
  | .goto i, s => Q (.goto i) s
  | .ret, s => Q .ret s
  | .panic x, s => Q (.panic x) s

theorem Tr.block {P : Program} {c : Code} {id : Nat} {s : St} {Q : AX → St → Prop} (h : Tr P c s (AX.blk id Q)) : Tr P (.block id c) s Q := by
  intro X σ β a w hr
  refine wp_block (wp_mono (h X σ β a w hr) ?_)
  rintro e a' w' ⟨ax, s', σ', β', q, e1, e2, ex, r, st⟩
  cases ax with
  | normal =>
    cases e <;> simp only [ExRel] at ex
    exact ⟨_, s', σ', β', q, e1, e2, trivial, r, st⟩
  | exit i =>
    cases e with
    | exit j =>
      simp only [ExRel] at ex
      subst ex
      simp only [AX.blk] at q
      by_cases hid : i = id
      · simp only [hid, beq_self_eq_true, cond_true] at q
        simp only [Exit.inBlock, hid, if_true]
        exact ⟨_, s', σ', β', q, e1, e2, trivial, r, st⟩
      · have : (i == id) = false := by simpa using hid
        simp only [this, cond_false] at q
        simp only [Exit.inBlock, hid, if_false]
        exact ⟨_, s', σ', β', q, e1, e2, rfl, r, st⟩
    | _ => simp only [ExRel] at ex
  | goto i =>
    cases e <;> simp only [ExRel] at ex
    subst ex
    exact ⟨_, s', σ', β', q, e1, e2, rfl, r, st⟩
  | ret =>
    cases e <;> simp only [ExRel] at ex
    exact ⟨_, s', σ', β', q, e1, e2, trivial, r, st⟩
  | panic x =>
    cases e <;> simp only [ExRel] at ex
    exact ⟨_, s', σ', β', q, e1, e2, ex, r, st⟩

/-- A loop: a family of states, each round going to a later one. -/
theorem Tr.loop {P : Program} {c : Code} {s : St} {Q : AX → St → Prop} (I : Nat → St → Prop) (n₀ : Nat) (h₀ : I n₀ s)
    (hn : ∀ m s', I m s' → s'.n = s.n ∧ s'.k = s.k)
    (round : ∀ m s', I m s' → Tr P c s' (AX.thn (fun s'' => ∃ m', m' < m ∧ I m' s'') Q)) : Tr P (.loop c) s Q := by
  intro X σ β a w hr
  refine wp_loop_ghost (fun m a' w' => ∃ s' σ' β', I m s' ∧ Rel X σ' β' s' a' w' ∧ Step X s.k σ β w σ' β' w') n₀ ⟨s, σ, β, h₀, hr, Step.refl _ _ _ _ _⟩ ?_
  rintro m a' w' ⟨s', σ', β', hI, hr', hst⟩
  have hk := hn m s' hI
  refine wp_mono (round m s' hI X σ' β' a' w' hr') ?_
  rintro e a2 w2 ⟨ax, s2, σ2, β2, q, e1, e2, ex, r, st⟩
  rw [hk.1] at e1
  rw [hk.2] at e2 st
  cases ax with
  | normal =>
    cases e <;> simp only [ExRel] at ex
    obtain ⟨m', hlt, hI'⟩ := q
    exact ⟨m', hlt, s2, σ2, β2, hI', r, hst.trans st⟩
  | exit i =>
    cases e <;> simp only [ExRel] at ex
    subst ex
    exact ⟨_, s2, σ2, β2, q, e1, e2, rfl, r, hst.trans st⟩
  | goto i =>
    cases e <;> simp only [ExRel] at ex
    subst ex
    exact ⟨_, s2, σ2, β2, q, e1, e2, rfl, r, hst.trans st⟩
  | ret =>
    cases e <;> simp only [ExRel] at ex
    exact ⟨_, s2, σ2, β2, q, e1, e2, trivial, r, hst.trans st⟩
  | panic x =>
    cases e <;> simp only [ExRel] at ex
    exact ⟨_, s2, σ2, β2, q, e1, e2, ex, r, hst.trans st⟩

theorem Tr.cond {P : Program} {c : Operand} {x y : Code} {s : St} {Q : AX → St → Prop} {t : Bool}
    (hc : ∀ X σ β a w, Rel X σ β s a w → a.eval c = .bool t) (ht : t = true → Tr P x s Q) (hf : t = false → Tr P y s Q) : Tr P (.cond c x y) s Q := by
  intro X σ β a w hr
  exact wp_cond_split (hc X σ β a w hr) (fun h => ht h X σ β a w hr) (fun h => hf h X σ β a w hr)

/-- Less is known, boxes are dropped or left alone for ever: one state stands for another. -/
def Weak (s s' : St) : Prop :=
  s'.n = s.n ∧ s'.k = s.k ∧ ∀ X σ β a w, Rel X σ β s a w → ∃ σ' β', Rel X σ' β' s' a w ∧ Step X s.k σ β w σ' β' w

theorem Weak.refl (s : St) : Weak s s := ⟨rfl, rfl, fun _ σ β _ _ h => ⟨σ, β, h, Step.refl _ _ _ _ _⟩⟩

theorem Weak.trans {s s' s'' : St} (h : Weak s s') (g : Weak s' s'') : Weak s s'' := by
  refine ⟨g.1.trans h.1, g.2.1.trans h.2.1, fun X σ β a w r => ?_⟩
  obtain ⟨σ', β', r', st⟩ := h.2.2 X σ β a w r
  obtain ⟨σ2, β2, r2, st2⟩ := g.2.2 X σ' β' a w r'
  rw [h.2.1] at st2
  exact ⟨σ2, β2, r2, st.trans st2⟩

theorem Tr.weak {P : Program} {c : Code} {s s' : St} {Q : AX → St → Prop} (hw : Weak s s') (h : Tr P c s' Q) : Tr P c s Q := by
  intro X σ β a w hr
  obtain ⟨e1, e2, hw⟩ := hw
  obtain ⟨σ', β', hr', hb⟩ := hw X σ β a w hr
  have := h X σ' β' a w hr'
  rw [e1, e2] at this
  exact wp_mono this (fun e a w h => Post.from_ hb h)

end Go.Vx

/- A box is left alone for ever: what points to it reads stable cells. -/
namespace Go.Vx
set_option linter.unusedVariables false
set_option linter.unusedSimpArgs false
open Go
set_option linter.unusedVariables false
set_option linter.unusedSimpArgs false

mutual
def frzA (m : Nat) (ds : List D) : A → A
  | .any => .any
  | .d x => .d x
  | .ptr n o => if n = m then .ep (ds.drop o) else .ptr n o
  | .agg cs => .agg (frzL m ds cs)
  | .clo f cs => .clo f (frzL m ds cs)
  | .tup cs => .tup (frzL m ds cs)
  | .bsl n o l c => if n = m then (if l ≤ c ∧ l ≤ maxL ∧ o + l ≤ ds.length then .d (.sl 1 (((ds.drop o).take l).map fun x => [x])) else .any) else .bsl n o l c
  | .ep e => .ep e
  | .nil c => .nil c
  | .ful c es => .ful c es
def frzL (m : Nat) (ds : List D) : List A → List A
  | [] => []
  | x :: l => frzA m ds x :: frzL m ds l
end
def frzT (m : Nat) (ds : List D) : List (Nat × A) → List (Nat × A)
  | [] => []
  | (i, x) :: l => (i, frzA m ds x) :: frzT m ds l
def frzB (m : Nat) (ds : List D) : List (Nat × List A) → List (Nat × List A)
  | [] => []
  | (n, cs) :: l => if n = m then frzB m ds l else (n, frzL m ds cs) :: frzB m ds l
def frzO (m : Nat) : List (Loc × Nat) → List (Loc × Nat)
  | [] => []
  | (.t i, c) :: l => (.t i, c) :: frzO m l
  | (.b n o, c) :: l => if n = m then frzO m l else (.b n o, c) :: frzO m l

theorem frzL_get {m : Nat} {ds : List D} : ∀ {l : List A} {i : Nat} {y : A}, (frzL m ds l)[i]? = some y → ∃ x, l[i]? = some x ∧ y = frzA m ds x := by
  intro l
  induction l with
  | nil => intro i y h; simp [frzL] at h
  | cons x l ih =>
    intro i y h
    cases i with
    | zero => simp only [frzL, List.getElem?_cons_zero, Option.some.injEq] at h; exact ⟨x, rfl, h.symm⟩
    | succ i => exact ih (by simpa [frzL] using h)
theorem frzL_len {m : Nat} {ds : List D} : ∀ {l : List A}, (frzL m ds l).length = l.length
  | [] => rfl
  | x :: l => by simp [frzL, frzL_len (l := l)]
theorem frzT_look {m : Nat} {ds : List D} {i : Nat} : ∀ {t : List (Nat × A)}, look i (frzT m ds t) = frzA m ds (look i t)
  | [] => rfl
  | (j, x) :: l => by
    rw [frzT, look_cons, look_cons, frzT_look (t := l)]
    split <;> rfl
theorem frzB_look {m : Nat} {ds : List D} {n : Nat} : ∀ {bx : List (Nat × List A)}, lookB n (frzB m ds bx) = if n = m then none else (lookB n bx).map (frzL m ds)
  | [] => by simp [frzB, lookB]
  | (p, cs) :: l => by
    rw [frzB, lookB_cons]
    have ih := frzB_look (m := m) (ds := ds) (n := n) (bx := l)
    by_cases h : p = m
    · subst h
      rw [if_pos rfl, ih]
      by_cases h2 : n = p
      · simp [h2]
      · simp [h2]
    · rw [if_neg h, lookB_cons, ih]
      by_cases h2 : n = p
      · subst h2; simp [h]
      · simp [h2]
theorem frzO_mem {m : Nat} {l : Loc} {c : Nat} : ∀ {ow : List (Loc × Nat)}, (l, c) ∈ frzO m ow → (l, c) ∈ ow ∧ ∀ n o, l = .b n o → n ≠ m
  | [], h => by cases h
  | (.t i, c') :: r, h => by
    rcases List.mem_cons.1 h with e | h
    · cases e; exact ⟨.head _, fun n o e => by cases e⟩
    · obtain ⟨h1, h2⟩ := frzO_mem (ow := r) h; exact ⟨.tail _ h1, h2⟩
  | (.b n o, c') :: r, h => by
    rw [frzO] at h
    split at h
    · obtain ⟨h1, h2⟩ := frzO_mem (ow := r) h; exact ⟨.tail _ h1, h2⟩
    · rename_i hn
      rcases List.mem_cons.1 h with e | h
      · cases e; exact ⟨.head _, fun n' o' e => by cases e; exact hn⟩
      · obtain ⟨h1, h2⟩ := frzO_mem (ow := r) h; exact ⟨.tail _ h1, h2⟩

theorem frzA_bsl' {m ds n o l c} : frzA m ds (.bsl n o l c) = if n = m then (if l ≤ c ∧ l ≤ maxL ∧ o + l ≤ ds.length then .d (.sl 1 (((ds.drop o).take l).map fun x => [x])) else .any) else .bsl n o l c := by simp only [frzA]

theorem weak_frzC {n k : Nat} {t : List (Nat × A)} {bx : List (Nat × List A)} {own : List (Loc × Nat)} (m : Nat) (ds : List D) (hm : lookB m bx = some (ds.map .d)) (hk : k ≤ m) :
    True ∧ True ∧ ∀ X σ β a w, Rel X σ β ⟨n, k, t, bx, own⟩ a w → ∃ σ' β', Rel X σ' β' ⟨n, k, frzT m ds t, frzB m ds bx, frzO m own⟩ a w ∧ Step X k σ β w σ' β' w ∧ ∀ x v, RA σ β x v → RA σ' β' (frzA m ds x) v := by
  refine ⟨trivial, trivial, fun X σ β a w h => ?_⟩
  obtain ⟨b, arr, T, fz, hb, hh, hsz, hr, hx, hσ, hf⟩ := h.box m _ hm
  let σ' : Store := fun c o => if c = b then arr[o]? else σ c o
  let β' : Names := fun i => if i = m then none else β i
  have hle : σ.le σ' := by
    intro c o v hv
    show (if c = b then arr[o]? else σ c o) = some v
    by_cases e : c = b
    · subst e; rw [hσ] at hv; cases hv
    · rw [if_neg e]; exact hv
  have hds : ∀ j x, ds[j]? = some x → arr[j]? = some (arr.getD j undef) ∧ Reads σ' x (arr.getD j undef) := by
    intro j x hj
    have h1 := hr j (.d x) (by simp [hj])
    have hlt : j < arr.size := by
      rw [hsz, List.length_map]
      exact (List.getElem?_eq_some_iff.1 hj).1
    refine ⟨by simp [Array.getD_eq_getD_getElem?, Array.getElem?_eq_getElem hlt], ?_⟩
    cases h1 with
    | d _ _ hrd => exact hrd.mono hle
  have conv : ∀ x v, RA σ β x v → RA σ' β' (frzA m ds x) v := by
    intro x v hv
    induction hv with
    | any v => exact .any v
    | d x v hr => exact .d x v (hr.mono hle)
    | ptr i off c hc =>
      simp only [frzA]
      split
      · rename_i e
        subst e
        rw [hb] at hc; cases hc
        refine .ep _ b off (fun j => arr.getD (off + j) undef) ?_ ?_
        · intro j x hj
          show (if b = b then arr[off + j]? else _) = _
          rw [if_pos rfl]
          exact (hds _ x (by simpa [List.getElem?_drop] using hj)).1
        · intro j x hj
          exact (hds _ x (by simpa [List.getElem?_drop] using hj)).2
      · rename_i e; exact .ptr i off c (by show (if i = m then none else β i) = some c; rw [if_neg e]; exact hc)
    | agg cs vs hn _ ih =>
      refine .agg _ vs (by rw [frzL_len]; exact hn) (fun i y hy => ?_)
      obtain ⟨x, hx, rfl⟩ := frzL_get hy
      exact ih i x hx
    | clo f cs vs hn _ ih =>
      refine .clo f _ vs (by rw [frzL_len]; exact hn) (fun i y hy => ?_)
      obtain ⟨x, hx, rfl⟩ := frzL_get hy
      exact ih i x hx
    | tup cs vs hn _ ih =>
      refine .tup _ vs (by rw [frzL_len]; exact hn) (fun i y hy => ?_)
      obtain ⟨x, hx, rfl⟩ := frzL_get hy
      exact ih i x hx
    | bsl i off len cap c hc =>
      simp only [frzA]
      split
      · rename_i e
        subst e
        rw [hb] at hc; cases hc
        split
        · rename_i hlc
          have hlen : (((ds.drop off).take len).map fun x => [x]).length = len := by simp; omega
          have := Reads.sl (σ := σ') 1 (((ds.drop off).take len).map fun x => [x]) b off cap (fun i j => arr.getD (off + i + j) undef) (by rw [hlen]; exact hlc.2.1) (by rw [hlen]; exact hlc.1)
            (by intro e he; obtain ⟨x, _, rfl⟩ := List.mem_map.1 he; rfl) ?_ ?_
          · rw [hlen] at this; exact .d _ _ this
          · intro i e he j x hj
            rw [List.getElem?_map] at he
            obtain ⟨y, hy, rfl⟩ := Option.map_eq_some_iff.1 he
            have hj0 : j = 0 := by
              have := (List.getElem?_eq_some_iff.1 hj).1; simp at this; omega
            subst hj0
            simp only [List.getElem?_cons_zero, Option.some.injEq] at hj
            subst hj
            rw [List.getElem?_take] at hy
            split at hy
            · rw [List.getElem?_drop] at hy
              show (if b = b then arr[off + i * 1 + 0]? else _) = _
              rw [if_pos rfl, Nat.mul_one, Nat.add_zero]
              exact (hds _ _ hy).1
            · cases hy
          · intro i e he j x hj
            rw [List.getElem?_map] at he
            obtain ⟨y, hy, rfl⟩ := Option.map_eq_some_iff.1 he
            have hj0 : j = 0 := by
              have := (List.getElem?_eq_some_iff.1 hj).1; simp at this; omega
            subst hj0
            simp only [List.getElem?_cons_zero, Option.some.injEq] at hj
            subst hj
            rw [List.getElem?_take] at hy
            split at hy
            · rw [List.getElem?_drop] at hy
              exact (hds _ _ hy).2
            · cases hy
        · exact .any _
      · rename_i e; exact .bsl i off len cap c (by show (if i = m then none else β i) = some c; rw [if_neg e]; exact hc)
    | ep e c off f hs hr => exact .ep e c off f (fun j x hx => hle _ _ _ (hs j x hx)) (fun j x hx => (hr j x hx).mono hle)
    | nil c => exact .nil c
    | ful c es v h hf => exact .ful c es v (h.mono hle) hf
  have hbβ : ∀ i c, β' i = some c → i ≠ m ∧ β i = some c := by
    intro i c hi
    have hi : (if i = m then none else β i) = some c := hi
    split at hi
    · cases hi
    · rename_i e; exact ⟨e, hi⟩
  have hloc : ∀ l c, (l, c) ∈ frzO m own → locVal β' a w l = locVal β a w l := by
    intro l c hl
    obtain ⟨_, hn⟩ := frzO_mem hl
    cases l with
    | t i => rfl
    | b i o =>
      show (if i = m then none else β i).bind _ = _
      rw [if_neg (hn i o rfl)]; rfl
  refine ⟨σ', β', ⟨h.size, h.defs, ?_, ?_, h.xs, ?_, ?_, ?_, ?_, ?_⟩, ⟨hle, ?_, Nat.le_refl _, rfl, rfl, rfl, ?_⟩, conv⟩
  · intro i
    show RA σ' β' (look i (frzT m ds t)) _
    rw [frzT_look]
    exact conv _ _ (h.tmp i)
  · intro c o v hv
    have hv' : (if c = b then arr[o]? else σ c o) = some v := hv
    by_cases e : c = b
    · rw [if_pos e] at hv'; rw [e, cell_of_block hh]; exact hv'
    · rw [if_neg e] at hv'; exact h.st c o v hv'
  · intro i cs hi
    have hi : lookB i (frzB m ds bx) = some cs := hi
    rw [frzB_look] at hi
    split at hi
    · cases hi
    · rename_i e
      obtain ⟨cs0, h0, rfl⟩ := Option.map_eq_some_iff.1 hi
      obtain ⟨b2, arr2, T2, fz2, g1, g2, g3, g4, g5, g6, g7⟩ := h.box i cs0 h0
      have hne : b2 ≠ b := fun e2 => e (h.inj i m b (e2 ▸ g1) hb)
      refine ⟨b2, arr2, T2, fz2, by show (if i = m then none else β i) = some b2; rw [if_neg e]; exact g1, g2, by rw [frzL_len]; exact g3, ?_, g5, ?_, g7⟩
      · intro j y hy
        obtain ⟨x, hx, rfl⟩ := frzL_get hy
        exact conv _ _ (g4 j x hx)
      · intro o
        show (if b2 = b then arr[o]? else σ b2 o) = none
        rw [if_neg hne]; exact g6 o
  · intro i c hi
    obtain ⟨e, hi⟩ := hbβ i c hi
    obtain ⟨cs, hcs⟩ := h.dom i c hi
    refine ⟨frzL m ds cs, ?_⟩
    show lookB i (frzB m ds bx) = _
    rw [frzB_look, if_neg e, hcs]; rfl
  · intro i j c hi hj
    exact h.inj i j c (hbβ i c hi).2 (hbβ j c hj).2
  · intro l c hl
    obtain ⟨v, hv, ho⟩ := h.own l c (frzO_mem hl).1
    refine ⟨v, (hloc l c hl).trans hv, ?_⟩
    intro c2 off len cap e hlt
    obtain ⟨g1, g2, g3, g4⟩ := ho c2 off len cap e hlt
    refine ⟨g1, ?_, g3, fun i hi => g4 i (hbβ i c2 hi).2⟩
    intro o ho2
    have : c2 ≠ b := fun e2 => g4 m (e2 ▸ hb)
    show (if c2 = b then arr[o]? else σ c2 o) = none
    rw [if_neg this]; exact g2 o ho2
  · intro l c l' c' hl hl' hne v v' b' hv hv'
    rw [hloc l c hl] at hv
    rw [hloc l' c' hl'] at hv'
    exact h.sep l c l' c' (frzO_mem hl).1 (frzO_mem hl').1 hne v v' b' hv hv'
  · intro c hc
    refine ⟨rfl, fun o => ?_⟩
    have : c ≠ b := fun e => hx (e ▸ hc)
    show (if c = b then arr[o]? else σ c o) = σ c o
    rw [if_neg this]
  · intro i hi
    have : i ≠ m := by
      have : i < k := hi
      omega
    show (if i = m then none else β i) = β i
    rw [if_neg this]


theorem weak_frz {n k : Nat} {t : List (Nat × A)} {bx : List (Nat × List A)} {own : List (Loc × Nat)} (m : Nat) (ds : List D) (hm : lookB m bx = some (ds.map .d)) (hk : k ≤ m) :
    Weak ⟨n, k, t, bx, own⟩ ⟨n, k, frzT m ds t, frzB m ds bx, frzO m own⟩ :=
  ⟨rfl, rfl, fun X σ β a w h => by obtain ⟨σ', β', h1, h2, _⟩ := (weak_frzC m ds hm hk).2.2 X σ β a w h; exact ⟨σ', β', h1, h2⟩⟩

end Go.Vx

/- The compiled code, the compiler, and the conditions. -/
namespace Go.Vx
set_option linter.unusedVariables false
set_option linter.unusedSimpArgs false
open Go

inductive Opd where
  | t (i : Nat)
  | c (a : A)
  deriving Inhabited

inductive AOp where
  | mv (x : Opd) (tr : Bool)
  | nil (c : Nat)
  | pick (c a b : Opd)
  | alloc (cs : List A) (ow : List (Nat × Nat))
  | box (c : Nat) (x : Opd)
  | build (zero : List A) (parts : List (Nat × Nat × Opd))
  | bslc (c len : Nat) (zero : List D) (parts : List (Nat × Nat × Opd))
  | bslf (c len : Nat) (zero : List D) (parts : List (Nat × Nat × Opd))
  | load (ag : Bool) (c : Nat) (x : Opd) (tr : Bool)
  | store (c : Nat) (x v : Opd)
  | nilck (x : Opd)
  | bin (op : BinOp) (x y : Opd)
  | binB (neg : Bool) (x y : Opd)
  | isnil (neg : Bool) (kd : Nat) (x : Opd)
  | idn (x : Opd)
  | lenS (x : Opd)
  | eqs (neg : Bool) (ks : List Nat) (x y : Opd)
  | un (op : UnOp) (x : Opd)
  | cvi (k : IntKind) (x : Opd)
  | cvb (x : Opd)
  | cvs (x : Opd)
  | cvl (x : Opd)
  | fa (off : Nat) (x : Opd)
  | fld (ag : Bool) (off c : Nat) (x : Opd)
  | ixa (n c : Nat) (x i : Opd)
  | ixs (c : Nat) (x i : Opd)
  | ixv (ag : Bool) (n c : Nat) (x i : Opd)
  | ixc (x i : Opd)
  | len (x : Opd)
  | lenA (n : Nat)
  | slc (c : Nat) (x : Opd) (lo hi : Option Opd) (tr : Bool)
  | slc3 (c : Nat) (x : Opd) (lo : Option Opd) (hi mx : Opd)
  | sla (n c : Nat) (x : Opd) (lo hi : Option Opd)
  | sls (x : Opd) (lo hi : Option Opd)
  | app (c bytes : Nat) (s x : Opd)
  | cpy (c : Nat) (d x : Opd)
  | s2a (n c : Nat) (x : Opd)
  | mkif (t : TypeId) (x : Opd)
  | tas (t : TypeId) (ok : Bool) (x : Opd)
  | panic (x : Opd)
  | ext (x : Opd) (i : Nat)
  | clo (f : FuncId) (caps : List Opd)
  deriving Inhabited

/-- An operation, or a call. -/
inductive AI where
  | op (x : AOp)
  | call (f : FuncId) (args : List Opd) (po : Option Nat)
  | callv (fn : Opd) (args : List Opd)
  deriving Inhabited

structure AO where
  d : Option Nat
  g : Option (Nat × Bool)
  op : AI
  deriving Inhabited

/-- An operation of a region that draws its order: its place, and what is surely carried out before it. -/
structure DO where
  i : Nat
  o : AO
  anc : List Nat
  deriving Inhabited

inductive AC where
  | skip
  | draw (ops : List DO)
  | drawo (pre : List DO) (a d : Nat) (tl : List AO)
  | reg (ops : List AO)
  | seq (a b : AC)
  | cond (x : Opd) (a b : AC)
  | block (id : Nat) (c : AC)
  | loop (c : AC)
  | exit (id : Nat)
  | ret
  | label (l : Nat)
  | goto (l : Nat)
  deriving Inhabited

/-! ### The compiler -/

def isAggD : TypeDesc → Bool
  | .struct _ => true
  | .array _ _ => true
  | _ => false

def tyAgg (P : Program) (t : TypeId) : Option Bool := (P.underlying t).map isAggD
def tySize (P : Program) (t : TypeId) : Option Nat := (P.info? t).map (·.size)

/-- A constant. -/
def aOf : Value → Option A
  | .int k n => some (.d (.int k n))
  | .bool b => some (.d (.bool b))
  | .string s => if s.size ≤ maxL then some (.d (.str s.data.toList)) else none
  | .pointer none => some (.d .nilp)
  | .nilIface => some (.d .nilif)
  | .nilFunc => some (.d .nilfn)
  | .slice none 0 0 => some (.d (.sl 0 []))
  | _ => none

def cOpd : Operand → Option Opd
  | .tmp t => some (.t t)
  | .const v => (aOf v).map .c
  | .func f => some (.c (.clo f []))
  | .global _ => none

/-- The cells of a zero value, by its type: what each holds, and, of a slice, its elements' size. -/
def zeroOf (P : Program) : Nat → TypeId → Option (List (D × Option Nat))
  | 0, _ => none
  | d + 1, t =>
    match P.underlying t with
    | some .bool => some [(.bool false, none)]
    | some (.int k) => some [(.int k 0, none)]
    | some .string => some [(.str [], none)]
    | some (.pointer _) => some [(.nilp, none)]
    | some (.interface _) => some [(.nilif, none)]
    | some (.func _ _ _) => some [(.nilfn, none)]
    | some (.slice e) => (tySize P e).map fun c => [(.sl c [], some c)]
    | some (.struct fs) => (fs.toList.mapM fun f => zeroOf P d f.type).map List.flatten
    | some (.array n e) => (zeroOf P d e).map fun l => (List.replicate n l).flatten
    | _ => none

/-- Does a cell read so (of a zero value)? -/
def zeroFits : D → Value → Bool
  | .bool false, .bool b => !b
  | .int k 0, .int k' n => k == k' && n == 0
  | .str [], .string s => s.size == 0
  | .nilp, .pointer none => true
  | .nilif, .nilIface => true
  | .nilfn, .nilFunc => true
  | .sl _ [], .slice none 0 0 => true
  | _, _ => false

def zeroFitsAll : List D → List Value → Bool
  | [], [] => true
  | x :: l, v :: m => zeroFits x v && zeroFitsAll l m
  | _, _ => false

def zeroT (P : Program) (t : TypeId) : Option (List (D × Option Nat)) := do
  let i ← P.info? t
  let z ← i.zero
  let l ← zeroOf P 8 t
  if zeroFitsAll (l.map (·.1)) z.cells.toList then some l else none

def ownOfZero (l : List (D × Option Nat)) : List (Nat × Nat) := (l.zipIdx.filterMap fun (p, i) => p.2.map fun c => (i, c))

/-- The leaves of a type that is compared by '==': bools (0), integers (1), strings (2), laid without gaps. -/
def flatEq (P : Program) : Nat → TypeId → Option (List Nat)
  | 0, _ => none
  | d + 1, t =>
    match P.underlying t with
    | some .bool => some [0]
    | some (.int _) => some [1]
    | some .string => some [2]
    | some (.struct fs) => if P.stoodInHeld t then none else flatFields (flatEq P d) (fun t => (tyAgg P t, tySize P t)) 0 fs.toList
    | some (.array n e) =>
      match flatEq P d e, tyAgg P e with
      | some l, some ag => if tySize P e = some l.length ∧ (ag = true ∨ l.length = 1) ∧ 0 < l.length then some (List.replicate n l).flatten else none
      | _, _ => none
    | _ => none
where
  flatFields (rec : TypeId → Option (List Nat)) (ty : TypeId → Option Bool × Option Nat) : Nat → List Field → Option (List Nat)
    | _, [] => some []
    | off, f :: fs =>
      match rec f.type, ty f.type with
      | some l, (some ag, some c) =>
        if f.name ≠ "_" ∧ f.offset = off ∧ c = l.length ∧ (ag = true ∨ c = 1) ∧ 0 < c then
          match flatFields rec ty (off + c) fs with
          | some m => some (l ++ m)
          | none => none
        else none
      | _, _ => none

def cOpt : Option Operand → Option (Option Opd)
  | none => some none
  | some y => (cOpd y).map some

def isNilSlice : Operand → Bool
  | .const (.slice none 0 0) => true
  | _ => false

/-- A comparison with a nil that is written out: of a pointer (0), a slice (1), an interface (2), a function (3). -/
def nilKind : TypeDesc → Operand → Option Nat
  | .pointer _, .const (.pointer none) => some 0
  | .slice _, .const (.slice none 0 0) => some 1
  | .interface _, .const .nilIface => some 2
  | .func _ _ _, .const .nilFunc => some 3
  | _, _ => none

/-- Which argument's ownership a function is handed. -/
def ownArg (ows : List (FuncId × Nat)) (f : FuncId) : Option Nat := (ows.find? (·.1 == f)).map (·.2)

/-- A temporary that is asked to take over (1000000 + its number in the list), or that is handed on by what comes later. -/
def wantsOwn (ows : List (FuncId × Nat)) (later : List Oper) (t : Tmp) : Bool :=
  (ownArg ows (1000000 + t)).isSome || later.any fun o => match o.op with
    | .call { callee := .builtin .append, args, .. } => (match (args[0]? : Option Operand) with | some (.tmp u) => u == t | _ => false)
    | .call { callee := .value (.func f), args, .. } => (match (ownArg ows f).bind (args[·]?) with | some (.tmp u) => u == t | _ => false)
    | .store _ _ (.tmp u) => u == t
    | .slice _ (.tmp u) _ _ _ => u == t
    | _ => false

/-- The parts of a value that is built. -/
def cParts (place : Nat → Option (Nat × Nat)) : List (Nat × Operand) → Option (List (Nat × Nat × Opd))
  | [] => some []
  | (i, x) :: r => match cOpd x, place i, cParts place r with
    | some y, some (o, c), some l => some ((o, c, y) :: l)
    | _, _, _ => none

/-- A zero value's cell: a nil slice is known for one, where that is asked. -/
def zA (fl : Bool) (p : D × Option Nat) : A := match fl, p.1, p.2 with
  | true, .sl _ [], some c => .nil c
  | _, _, _ => .d p.1

def storesIt (later : List Oper) (t : Tmp) : Bool :=
  later.any fun o => match o.op with
    | .store _ _ (.tmp u) => u == t
    | _ => false

def convIt (later : List Oper) (t : Tmp) : Bool :=
  later.any fun o => match o.op with
    | .convert _ _ (.tmp u) => u == t
    | _ => false

def compOp (P : Program) (ows : List (FuncId × Nat)) (later : List Oper) (o : Oper) : Option AOp :=
  let tr := match o.dst with | some d => wantsOwn ows later d | none => false
  match o.op with
  | .move x => if isNilSlice x then (match P.underlying o.type with | some (.slice e) => (tySize P e).map .nil | _ => none) else (cOpd x).map fun y => .mv y tr
  | .assign x => if isNilSlice x then (match P.underlying o.type with | some (.slice e) => (tySize P e).map .nil | _ => none) else (cOpd x).map fun y => .mv y true
  | .pick c a b => do some (.pick (← cOpd c) (← cOpd a) (← cOpd b))
  | .alloc t => do let l ← zeroT P t; some (.alloc (l.map fun p => .d p.1) (ownOfZero l))
  | .box t x => do some (.box (← tySize P t) (← cOpd x))
  | .build t parts => do
    let l ← zeroT P t
    let fl := match o.dst with | some d => storesIt later d | none => false
    match P.underlying t with
    | some (.struct fs) => do
      let places ← fs.toList.mapM fun f => (P.info? f.type).map fun i => (f.offset, i.size)
      let ps ← cParts (places[·]?) parts.toList
      some (.build (l.map (zA fl)) ps)
    | some (.array _ e) => do
      let c ← tySize P e
      let ps ← cParts (fun i => some (i * c, c)) parts.toList
      some (.build (l.map (zA fl)) ps)
    | _ => none
  | .buildSlice t n parts => do
    let .slice e ← P.underlying t | none
    let c ← tySize P e
    if c = 0 ∨ n * c > 2 ^ 24 ∨ n > maxL then none else
    let l ← zeroT P e
    if l.length ≠ c then none else
    let ps ← cParts (fun i => some (i * c, c)) parts.toList
    if n = 0 then (match parts.toList with | [] => some (.bslc c 0 (l.map (·.1)) []) | _ => none) else
    some (match (match o.dst with | some d => convIt later d | none => false) with | true => .bslf c n (l.map (·.1)) ps | false => .bslc c n (l.map (·.1)) ps)
  | .load t a => do some (.load (← tyAgg P t) (← tySize P t) (← cOpd a) tr)
  | .store t a v => do some (.store (← tySize P t) (← cOpd a) (← cOpd v))
  | .nilCheck x => do some (.nilck (← cOpd x))
  | .binOp op t x y _ => do
    let x' ← cOpd x
    let y' ← cOpd y
    match op, P.underlying t with
    | .eql, some (.struct _) => do let ks ← flatEq P 16 t; if P.eqGuardType P.depth t = false then some (.eqs false ks x' y') else none
    | .eql, some (.array _ _) => do let ks ← flatEq P 16 t; if P.eqGuardType P.depth t = false then some (.eqs false ks x' y') else none
    | .neq, some (.struct _) => do let ks ← flatEq P 16 t; if P.eqGuardType P.depth t = false then some (.eqs true ks x' y') else none
    | .neq, some (.array _ _) => do let ks ← flatEq P 16 t; if P.eqGuardType P.depth t = false then some (.eqs true ks x' y') else none
    | _, some (.int _) | _, some .string => some (.bin op x' y')
    | .eql, some .bool => some (.binB false x' y')
    | .neq, some .bool => some (.binB true x' y')
    | .eql, some td => (nilKind td y).map fun kd => .isnil false kd x'
    | .neq, some td => (nilKind td y).map fun kd => .isnil true kd x'
    | _, _ => none
  | .unOp op _ x => do some (.un op (← cOpd x))
  | .convert src dst x => do
    let x' ← cOpd x
    match P.underlying src, P.underlying dst with
    | some (.int _), some (.int k) => some (.cvi k x')
    | some .string, some .string => some (.idn x')
    | some .string, some (.slice e) => if P.underlying e matches some (.int .u8) then some (.cvb x') else none
    | some (.slice e), some .string => if P.underlying e matches some (.int .u8) then some (.cvs x') else none
    | some (.slice e), some (.slice _) => if P.underlying e matches some (.int .u8) then (if src = dst then some (.cvl x') else none) else none
    | _, _ => none
  | .fieldAddr t x i => do
    let .struct fs ← P.underlying t | none
    let f ← fs[i]?
    let c ← tySize P f.type
    if c = 0 then none else some (.fa f.offset (← cOpd x))
  | .field t x i => do
    let .struct fs ← P.underlying t | none
    let f ← fs[i]?
    some (.fld (← tyAgg P f.type) f.offset (← tySize P f.type) (← cOpd x))
  | .indexAddr t x i => do
    let x' ← cOpd x
    let i' ← cOpd i
    match P.underlying t with
    | some (.array n e) => do some (.ixa n (← tySize P e) x' i')
    | some (.slice e) => do some (.ixs (← tySize P e) x' i')
    | _ => none
  | .index t x i => do
    let x' ← cOpd x
    let i' ← cOpd i
    match P.underlying t with
    | some (.array n e) => do some (.ixv (← tyAgg P e) n (← tySize P e) x' i')
    | some .string => some (.ixc x' i')
    | _ => none
  | .slice t x lo hi none => do
    let x' ← cOpd x
    let lo' ← cOpt lo
    let hi' ← cOpt hi
    match P.underlying t with
    | some (.array n e) => do some (.sla n (← tySize P e) x' lo' hi')
    | some (.slice e) => do some (.slc (← tySize P e) x' lo' hi' tr)
    | some .string => some (.sls x' lo' hi')
    | _ => none
  | .slice t x lo (some hi) (some mx) => do
    let x' ← cOpd x
    let lo' ← cOpt lo
    let hi' ← cOpd hi
    let mx' ← cOpd mx
    match P.underlying t with
    | some (.slice e) => do some (.slc3 (← tySize P e) x' lo' hi' mx')
    | _ => none
  | .sliceToArrayPointer t x => do
    let .array n e ← P.underlying t | none
    some (.s2a n (← tySize P e) (← cOpd x))
  | .makeInterface t x =>
    match P.underlying t with
    | some (.interface _) => none
    | some _ => (cOpd x).map (.mkif t)
    | none => none
  | .typeAssert x _ t ok =>
    match P.underlying t with
    | some (.interface _) => none
    | some _ => (cOpd x).map (.tas t ok)
    | none => none
  | .panic x => (cOpd x).map .panic
  | .extract x i => do some (.ext (← cOpd x) i)
  | .makeFunc (.func f) first caps => if first.size = 0 then do some (.clo f (← caps.toList.mapM cOpd)) else none
  | .call { callee := .builtin .len, args, argTypes } => do
    let t ← argTypes[0]?
    let x ← args[0]?
    match P.underlying t with
    | some .string => (cOpd x).map .lenS
    | some (.slice _) => (cOpd x).map .len
    | some (.array n _) => some (.lenA n)
    | some (.pointer a) => match P.underlying a with | some (.array n _) => some (.lenA n) | _ => none
    | _ => none
  | .call { callee := .builtin .append, args, argTypes } => do
    if args.size ≠ 2 ∨ argTypes.size ≠ 2 then none else
    let t ← argTypes[0]?
    let u ← argTypes[1]?
    let s ← args[0]?
    let x ← args[1]?
    let .slice e ← P.underlying t | none
    let c ← tySize P e
    let i ← P.info? e
    if c = 0 ∨ i.bytes = 0 then none else
    let z ← zeroT P e
    if z.length ≠ c then none else
    match P.underlying u with
    | some (.slice e') => if tySize P e' = some c then do some (.app c i.bytes (← cOpd s) (← cOpd x)) else none
    | some .string => if P.underlying e matches some (.int .u8) then do some (.app c i.bytes (← cOpd s) (← cOpd x)) else none
    | _ => none
  | .call { callee := .builtin .copy, args, argTypes } => do
    if args.size ≠ 2 ∨ argTypes.size ≠ 2 then none else
    let t ← argTypes[0]?
    let u ← argTypes[1]?
    let d ← args[0]?
    let x ← args[1]?
    let .slice e ← P.underlying t | none
    let c ← tySize P e
    if c = 0 then none else
    match P.underlying u with
    | some (.slice e') => if tySize P e' = some c then do some (.cpy c (← cOpd d) (← cOpd x)) else none
    | some .string => if P.underlying e matches some (.int .u8) then do some (.cpy c (← cOpd d) (← cOpd x)) else none
    | _ => none
  | _ => none

def compI (P : Program) (ows : List (FuncId × Nat)) (later : List Oper) (o : Oper) : Option AI :=
  match o.op with
  | .call { callee := .value (.func f), args, .. } =>
    match P.funcs[f]?, args.toList.mapM cOpd with
    | some fn, some l => if fn.body.isSome ∧ fn.name ≠ "runtime.NumGoroutine" then some (.call f l (ownArg ows f)) else none
    | _, _ => none
  | .call { callee := .value (.tmp t), args, .. } => (args.toList.mapM cOpd).map (.callv (.t t))
  | _ => (compOp P ows later o).map .op

def isStore : Op → Bool
  | .store _ _ _ => true
  | _ => false

def dstOk (N : Nat) (o : Oper) : Bool :=
  match o.dst with
  | some d => decide (d < N) && !isStore o.op
  | none => true

def compG (all : Array Oper) : Option (Nat × Bool) → Option (Option (Nat × Bool))
  | none => some none
  | some (j, w) => match (all[j]?).bind (·.dst) with
    | some d => some (some (d, w))
    | none => none

def compOps (P : Program) (ows : List (FuncId × Nat)) (N : Nat) (all : Array Oper) : List Oper → Option (List AO)
  | [] => some []
  | o :: r => match compI P ows r o, compG all o.guard, compOps P ows N all r with
    | some x, some g, some l =>
      if dstOk N o = true then some ({ d := o.dst, g, op := x } :: l) else none
    | _, _, _ => none

/-! ### Regions that draw their order -/

def memN (i : Nat) : List Nat → Bool
  | [] => false
  | j :: l => bif Nat.beq i j then true else memN i l

def insN (x : Nat) (l : List Nat) : List Nat := bif memN x l then l else x :: l

def uniN : List Nat → List Nat → List Nat
  | [], l => l
  | x :: r, l => insN x (uniN r l)

def lookN (n : Nat) : List (Nat × List Nat) → Option (List Nat)
  | [] => none
  | p :: l => bif Nat.beq n p.1 then some p.2 else lookN n l

/-- What is surely carried out before: out of the edges, and of what is so for the earlier ones. -/
def ancOf (ancs : List (Nat × List Nat)) : List Edge → Option (List Nat)
  | [] => some []
  | e :: r => match ancOf ancs r with
    | none => none
    | some l => if Region.binds .any e = true then (match lookN e.on ancs with
        | some a => some (insN e.on (uniN a l))
        | none => none) else some l

def opdsOf : AOp → List Opd
  | .mv x _ => [x]
  | .pick c a b => [c, a, b]
  | .load _ _ x _ => [x]
  | .store _ x v => [x, v]
  | .nilck x => [x]
  | .bin _ x y => [x, y]
  | .binB _ x y => [x, y]
  | .eqs _ _ x y => [x, y]
  | .un _ x => [x]
  | .cvi _ x => [x]
  | .fa _ x => [x]
  | .fld _ _ _ x => [x]
  | .ixa _ _ x i => [x, i]
  | .ixs _ x i => [x, i]
  | .len x => [x]
  | .slc _ x lo hi _ => x :: lo.toList ++ hi.toList
  | .sla _ _ x lo hi => x :: lo.toList ++ hi.toList
  | .s2a _ _ x => [x]
  | .ext x _ => [x]
  | .cpy _ d x => [d, x]
  | .build _ ps => ps.map fun p => p.2.2
  | .bslc _ _ _ ps => ps.map fun p => p.2.2
  | .bslf _ _ _ ps => ps.map fun p => p.2.2
  | _ => []

def opdsI : AI → List Opd
  | .op x => opdsOf x
  | .call _ args _ => args
  | .callv f args => f :: args

def opdTs : List Opd → List Nat
  | [] => []
  | .t i :: l => i :: opdTs l
  | .c _ :: l => opdTs l

/-- It changes what boxes there are, or what they hold. -/
def isWr : AI → Bool
  | .op (.store _ _ _) => true
  | .op (.cpy _ _ _) => true
  | .op (.alloc _ _) => true
  | _ => false

def isAl : AI → Bool
  | .op (.alloc _ _) => true
  | _ => false

def isCa : AI → Bool
  | .call _ _ _ => true
  | _ => false

def isLd : AI → Bool
  | .op (.load _ _ _ _) => true
  | _ => false

/-- What an operation reads, its guard included. -/
def opdsG (o : AO) : List Opd := (match o.g with | some (j, _) => [.t j] | none => []) ++ opdsI o.op

/-- Two operations: neither touches the other's temporary or boxes, or one waits for the other. -/
def okP (x y : DO) : Bool :=
  (match x.o.d, y.o.d with
   | some d, some e => !(Nat.beq d e)
   | _, _ => true) &&
  (memN y.i x.anc || memN x.i y.anc ||
    ((match y.o.d with
      | some e => !(memN e (opdTs (opdsG x.o)))
      | none => true) && !(isWr x.o.op && isWr y.o.op) && !(isCa x.o.op && isWr y.o.op) && !(isLd x.o.op && isWr y.o.op && !(isAl y.o.op))))

def okD (l : List DO) : Bool := l.all fun x => l.all fun y => Nat.beq x.i y.i || okP x y

/-- Whatever came earlier and is not waited for touches neither what it reads nor, if it writes, the boxes that it sees. -/
def okS1 (x y : DO) : Bool :=
  memN y.i x.anc || ((match y.o.d with
    | some e => !(memN e (opdTs (opdsG x.o)))
    | none => true) && !(isWr y.o.op && (isWr x.o.op || isCa x.o.op || isLd x.o.op)))

def okS : List DO → List DO → Bool
  | _, [] => true
  | pre, x :: r => pre.all (okS1 x) && okS (x :: pre) r

def compD (P : Program) (ows : List (FuncId × Nat)) (N : Nat) (ops : Array Oper) : Nat → List (Nat × List Nat) → List Oper → Option (List DO)
  | _, _, [] => some []
  | k, ancs, o :: r => match compI P ows ops.toList o, compG ops o.guard, ancOf ancs o.after.toList with
    | some x, some g, some a => if dstOk N o = true then (match compD P ows N ops (k + 1) ((k, a) :: ancs) r with
        | some l => some (⟨k, ⟨o.dst, g, x⟩, a⟩ :: l)
        | none => none) else none
    | _, _, _ => none

/-! #### An append in such a region: all else comes before it -/

/-- The temporary whose ownership an append takes over. -/
def appFrom : AI → Option Nat
  | .op (.app _ _ (.t i) _) => some i
  | _ => none

def firstApp : List DO → Nat → Option (Nat × Nat)
  | [], _ => none
  | x :: r, k => match appFrom x.o.op with
    | some d => some (k, d)
    | none => firstApp r (k + 1)

def isDst (d : Nat) (x : DO) : Bool := match x.o.d with
  | some e => Nat.beq d e
  | none => false

def dstAt (d : Nat) : List DO → Nat → Option Nat
  | [], _ => none
  | x :: r, k => bif isDst d x then some k else dstAt d r (k + 1)

def tmpMove (o : Oper) : Option Nat := match o.guard, o.op with
  | none, .move (.tmp t) => some t
  | none, .assign (.tmp t) => some t
  | _, _ => none

def allBelow : Nat → List Nat → Bool
  | 0, _ => true
  | k + 1, l => memN k l && allBelow k l

def cutOk (l : List DO) (p i a : Nat) : Bool :=
  Nat.blt i p && Nat.blt p l.length && (l.take p).all (fun x => !isDst a x) && (l.drop p).all (fun x => allBelow x.i x.anc) && okS [] (l.take p)

/-- Where the tail begins; where the ownership comes from, and where it goes. -/
def cutOf (ops : Array Oper) (l : List DO) : Option (Nat × Nat × Nat × Nat) :=
  match firstApp l 0 with
  | some (p, d) => match dstAt d l 0 with
    | some i => match (ops[i]?).bind tmpMove with
      | some a => if cutOk l p i a = true then some (p, i, a, d) else none
      | none => none
    | none => none
  | none => none

def comp (P : Program) (ows : List (FuncId × Nat)) (N : Nat) : Code → Option AC
  | .skip => some .skip
  | .region _ ops false => (compOps P ows N ops ops.toList).map .reg
  | .region _ ops true => if P.follows .mixedOrders = true then (match compD P ows N ops 0 [] ops.toList with
      | some l => if okD l = true ∧ okS [] l = true then (match cutOf ops l with
          | some (p, _, a, d) => (compOps P ows N ops (ops.toList.drop p)).map (.drawo (l.take p) a d)
          | none => some (.draw l)) else none
      | none => none) else none
  | .seq a b => do some (.seq (← comp P ows N a) (← comp P ows N b))
  | .cond c a b => do some (.cond (← cOpd c) (← comp P ows N a) (← comp P ows N b))
  | .block id c => do some (.block id (← comp P ows N c))
  | .loop c => do some (.loop (← comp P ows N c))
  | .exit id => some (.exit id)
  | .ret => some .ret
  | .label l => some (.label l)
  | .goto l => some (.goto l)
  | _ => none

end Go.Vx

/- The conditions: what must hold for a piece of compiled code to end as is asked. -/
namespace Go.Vx
set_option linter.unusedVariables false
set_option linter.unusedSimpArgs false
open Go

def St.ev (s : St) : Opd → A
  | .t i => look i s.t
  | .c a => a

def St.setd (s : St) : Option Nat → A → St
  | some d, x => s.set d x
  | none, _ => s

/-- Does a place own its slice, and with which size of an element? -/
def ownOf (i : Nat) : List (Loc × Nat) → Option Nat
  | [] => none
  | (.t j, c) :: l => bif i == j then some c else ownOf i l
  | (.b _ _, _) :: l => ownOf i l

def ownOfB (n o : Nat) : List (Loc × Nat) → Option Nat
  | [] => none
  | (.t _, _) :: l => ownOfB n o l
  | (.b m p, c) :: l => bif (n == m) && (o == p) then some c else ownOfB n o l

/-- A temporary is written, and owns what it holds. -/
def St.setO (s : St) (d c : Nat) (x : A) : St := { s with t := (d, x) :: s.t, own := (.t d, c) :: dropOt d s.own }

/-- A move that takes ownership along, where there is some. -/
def St.take (s : St) (d i : Nat) : St :=
  match ownOf i s.own with
  | some c => { s with t := (d, look i s.t) :: s.t, own := (.t d, c) :: dropOt i (dropOt d s.own) }
  | none => s.set d (look i s.t)

def cellsOfA : A → Option (List A)
  | .agg cs => some cs
  | .any => none
  | .tup _ => none
  | x => some [x]

def toD : A → Option D
  | .d x => some x
  | _ => none

def toDs : List A → Option (List D)
  | [] => some []
  | x :: l => match toD x, toDs l with
    | some y, some m => some (y :: m)
    | _, _ => none

/-- A slice that is full: as data. -/
def plainA : A → A
  | .ful c es => .d (.sl c es)
  | x => x
/-- The cells that hold full slices. -/
def fulOwn (m : Nat) : Nat → List A → List (Loc × Nat)
  | _, [] => []
  | i, .ful c _ :: r => (.b m i, c) :: fulOwn m (i + 1) r
  | i, _ :: r => fulOwn m (i + 1) r

/-- A box of one cell: its full slice counts as owned. -/
def plB (c : Nat) (cs : List A) : List A := bif c == 1 then cs.map plainA else cs
def plO (c m : Nat) (cs : List A) : List (Loc × Nat) := bif c == 1 then fulOwn m 0 cs else []

/-- May it lie in one cell? -/
def isCell : A → Bool
  | .d _ => true
  | .ptr _ _ => true
  | .clo _ _ => true
  | .bsl _ _ _ _ => true
  | .ep _ => true
  | .nil _ => true
  | .ful _ _ => true
  | _ => false

/-- Cells laid over a list. -/
def lay {α : Type} (l : List α) (o : Nat) : List α → List α
  | [] => l
  | x :: r => lay (l.set o x) (o + 1) r

def dropOr (n lo hi : Nat) : List (Loc × Nat) → List (Loc × Nat)
  | [] => []
  | (.t i, c) :: l => (.t i, c) :: dropOr n lo hi l
  | (.b m o, c) :: l => bif (m == n) && (Nat.ble lo o && Nat.blt o hi) then dropOr n lo hi l else (.b m o, c) :: dropOr n lo hi l

/-- One byte. -/
def bc (b : UInt8) : List D := [.int .u8 b.toNat]

def ibits (op : BinOp) (k : IntKind) (x y : Int) : Int :=
  let a := BitVec.ofInt k.bits x
  let b := BitVec.ofInt k.bits y
  match op with
  | .and => k.wrap (a &&& b).toNat
  | .or => k.wrap (a ||| b).toNat
  | .xor => k.wrap (a ^^^ b).toNat
  | _ => k.wrap (a &&& ~~~b).toNat

/-- Two whole numbers. -/
def vcInt (op : BinOp) (k : IntKind) (a b : Int) (K : A → Prop) : Prop :=
  match op with
  | .add => K (.d (.int k (k.wrap (a + b))))
  | .sub => K (.d (.int k (k.wrap (a - b))))
  | .mul => K (.d (.int k (k.wrap (a * b))))
  | .quo => b ≠ 0 ∧ K (.d (.int k (k.wrap (a.tdiv b))))
  | .rem => b ≠ 0 ∧ K (.d (.int k (a.tmod b)))
  | .and => K (.d (.int k (ibits .and k a b)))
  | .or => K (.d (.int k (ibits .or k a b)))
  | .xor => K (.d (.int k (ibits .xor k a b)))
  | .andNot => K (.d (.int k (ibits .andNot k a b)))
  | .shl => 0 ≤ b ∧ K (.d (.int k (k.wrap (a * 2 ^ (min b.toNat k.bits)))))
  | .shr => 0 ≤ b ∧ K (.d (.int k (a.fdiv (2 ^ (min b.toNat k.bits)))))
  | .eql => K (.d (.bool (a == b)))
  | .neq => K (.d (.bool (a != b)))
  | .lss => K (.d (.bool (decide (a < b))))
  | .leq => K (.d (.bool (decide (a ≤ b))))
  | .gtr => K (.d (.bool (decide (a > b))))
  | .geq => K (.d (.bool (decide (a ≥ b))))

def isShift : BinOp → Bool
  | .shl => true
  | .shr => true
  | _ => false

def vcStr (op : BinOp) (a b : List UInt8) (K : A → Prop) : Prop :=
  match op with
  | .add => a.length + b.length ≤ maxL ∧ K (.d (.str (a ++ b)))
  | .eql => K (.d (.bool (a == b)))
  | .neq => K (.d (.bool (a != b)))
  | .lss => K (.d (.bool (Op.bytesLess a b)))
  | .leq => K (.d (.bool (Op.bytesLess a b || a == b)))
  | .gtr => K (.d (.bool !(Op.bytesLess a b || a == b)))
  | .geq => K (.d (.bool !(Op.bytesLess a b)))
  | _ => False

/-- Two cells that are compared by '=='. -/
def eqCell : Nat → A → A → Option Bool
  | 1, .d (.int k a), .d (.int k' b) => bif k == k' then some (a == b) else none
  | 0, .d (.bool a), .d (.bool b) => some (a == b)
  | 2, .d (.str a), .d (.str b) => some (a == b)
  | _, _, _ => none

def eqCells : List Nat → List A → List A → Option Bool
  | [], [], [] => some true
  | k :: ks, x :: l, y :: m => match eqCell k x y, eqCells ks l m with
    | some a, some b => some (a && b)
    | _, _ => none
  | _, _, _ => none

/-- A part put into a value that is built. -/
def fillA (cs : List A) : List (Nat × Nat × List A) → Option (List A)
  | [] => some cs
  | (off, size, xs) :: r => bif (xs.length == size) && Nat.ble (off + xs.length) cs.length then fillA (lay cs off xs) r else none

def evCells (s : St) : List (Nat × Nat × Opd) → Option (List (Nat × Nat × List A))
  | [] => some []
  | (o, c, x) :: r => match cellsOfA (s.ev x), evCells s r with
    | some xs, some l => some ((o, c, xs) :: l)
    | _, _ => none

/-- Where a number ends up: an operand's number. -/
def intOf : A → Option Int
  | .d (.int _ n) => some n
  | _ => none

/-- The bounds of a slice expression: 'K lo hi'. -/
def vcBounds (s : St) (len : Nat) (lo hi : Option Opd) (K : Nat → Nat → Prop) : Prop :=
  match lo, hi with
  | none, none => K 0 len
  | some l, none => match s.ev l with
    | .d (.int _ a) => (0 ≤ a ∧ a ≤ len) ∧ K a.toNat len
    | _ => False
  | none, some h => match s.ev h with
    | .d (.int _ b) => (0 ≤ b ∧ b ≤ len) ∧ K 0 b.toNat
    | _ => False
  | some l, some h => match s.ev l, s.ev h with
    | .d (.int _ a), .d (.int _ b) => (0 ≤ a ∧ a ≤ b ∧ b ≤ len) ∧ K a.toNat b.toNat
    | _, _ => False

/-- Cells, cut into elements. -/
def chunk (c : Nat) : Nat → List D → Option (List (List D))
  | 0, [] => some []
  | 0, _ :: _ => none
  | n + 1, l => bif Nat.ble c l.length then (match chunk c n (l.drop c) with
      | some es => some (l.take c :: es)
      | none => none) else none

theorem chunk_spec {c : Nat} : ∀ {n : Nat} {l : List D} {es : List (List D)}, chunk c n l = some es → es.flatten = l ∧ (∀ e, e ∈ es → e.length = c) ∧ es.length = n := by
  intro n
  induction n with
  | zero =>
    intro l es h
    cases l with
    | nil => simp only [chunk, Option.some.injEq] at h; subst h; simp
    | cons x l => cases h
  | succ n ih =>
    intro l es h
    cases hb : Nat.ble c l.length with
    | false => simp [chunk, hb] at h
    | true =>
      simp only [chunk, hb, cond_true] at h
      split at h
      · rename_i es' h'
        cases h
        obtain ⟨h1, h2, h3⟩ := ih h'
        have hle : c ≤ l.length := Nat.le_of_ble_eq_true hb
        refine ⟨by simp [h1], ?_, by simp [h3]⟩
        intro e he
        rcases List.mem_cons.1 he with rfl | he
        · simp; omega
        · exact h2 e he
      · cases h

theorem toDs_all : ∀ (cs : List A) (ds : List D), toDs cs = some ds → cs = ds.map .d := by
  intro cs
  induction cs with
  | nil => intro ds h; simp only [toDs, Option.some.injEq] at h; subst h; rfl
  | cons x l ih =>
    intro ds h
    simp only [toDs] at h
    split at h
    · rename_i y m h1 h2
      cases h
      cases x <;> simp only [toD, Option.some.injEq, reduceCtorEq] at h1
      subst h1
      rw [ih m h2]; rfl
    · cases h

/-- What is appended. -/
def srcCells (s : St) (c : Nat) : A → (List (List D) → Prop) → Prop
  | .d (.sl c' es), K => (c' = c ∨ es = []) ∧ (es.length ≤ maxL → K es)
  | .d (.str b), K => c = 1 ∧ (b.length ≤ maxL → K (b.map bc))
  | .bsl n o len _, K => match lookB n s.bx with
    | some cs => (o + len * c ≤ cs.length ∧ len ≤ maxL) ∧ (match toDs ((cs.drop o).take (len * c)) with
      | some ds => match chunk c len ds with
        | some es => K es
        | none => False
      | none => False)
    | none => False
  | _, _ => False

theorem srcBsl {s : St} {c n o len cap : Nat} {K : List (List D) → Prop} (h : srcCells s c (.bsl n o len cap) K) : ∃ cs es, lookB n s.bx = some cs ∧ o + len * c ≤ cs.length ∧ len ≤ maxL ∧ (∀ e, e ∈ es → e.length = c) ∧ es.length = len ∧ (cs.drop o).take (len * c) = es.flatten.map .d ∧ K es := by
  simp only [srcCells] at h
  split at h
  · rename_i cs hcs
    obtain ⟨⟨h1, h2⟩, h⟩ := h
    split at h
    · rename_i ds hds
      split at h
      · rename_i es hes
        obtain ⟨k1, k2, k3⟩ := chunk_spec hes
        exact ⟨cs, es, hcs, h1, h2, k2, k3, by rw [toDs_all _ _ hds, k1], h⟩
      · exact h.elim
    · exact h.elim
  · exact h.elim

/-- One operation: 'K' behind it. -/
def vcOp (o : AOp) (d : Option Nat) (s : St) (K : St → Prop) (KP : D → Prop) : Prop :=
  match o with
  | .mv x tr => match tr, x, d with
    | true, .t i, some d => K (s.take d i)
    | _, _, _ => K (s.setd d (s.ev x))
  | .nil c => match d with
    | some d => K (s.setO d c (.d (.sl c [])))
    | none => K s
  | .pick c a b => match s.ev c with
    | .d (.bool t) => (t = true → K (s.setd d (s.ev a))) ∧ (t = false → K (s.setd d (s.ev b)))
    | _ => False
  | .alloc cs ow => match d with
    | some d => lookB (s.k + d) s.bx = none ∧ K { s with t := (d, .ptr (s.k + d) 0) :: s.t, bx := (s.k + d, cs) :: s.bx, own := ow.map (fun p => (.b (s.k + d) p.1, p.2)) ++ dropOt d s.own }
    | none => False
  | .box c x => match d, cellsOfA (s.ev x) with
    | some d, some cs => lookB (s.k + d) s.bx = none ∧ cs.length = c ∧ K { s with t := (d, .ptr (s.k + d) 0) :: s.t, bx := (s.k + d, plB c cs) :: s.bx, own := plO c (s.k + d) cs ++ dropOt d s.own }
    | _, _ => False
  | .build zero ps => match evCells s ps with
    | some l => match fillA zero l with
      | some cs => K (s.setd d (.agg cs))
      | none => False
    | none => False
  | .bslc c len zero ps => match d, evCells s ps with
    | some d, some l => match fillA ((List.replicate len zero).flatten.map .d) l with
      | some cs => match toDs cs with
        | some ds => match chunk c len ds with
          | some es => K (s.setO d c (.d (.sl c es)))
          | none => False
        | none => False
      | none => False
    | _, _ => False
  | .bslf c len zero ps => match d, evCells s ps with
    | some d, some l => match fillA ((List.replicate len zero).flatten.map .d) l with
      | some cs => lookB (s.k + d) s.bx = none ∧ cs.length = len * c ∧ K { s with t := (d, .bsl (s.k + d) 0 len len) :: s.t, bx := (s.k + d, cs) :: s.bx, own := dropOt d s.own }
      | none => False
    | _, _ => False
  | .load ag c x tr => match s.ev x with
    | .ptr n off => match lookB n s.bx with
      | some cs => match ag with
        | true => off + c ≤ cs.length ∧ K (s.setd d (.agg ((cs.drop off).take c)))
        | false => ∃ a, cs[off]? = some a ∧ (match tr, d, ownOfB n off s.own with
          | true, some d, some oc => K { s with t := (d, a) :: s.t, own := (.t d, oc) :: dropOc n off (dropOt d s.own) }
          | _, _, _ => K (s.setd d a))
      | none => False
    | .ep e => match ag with
      | true => c ≤ e.length ∧ K (s.setd d (.agg ((e.take c).map .d)))
      | false => ∃ a, e[0]? = some a ∧ K (s.setd d (.d a))
    | _ => False
  | .store c x v => match s.ev x, cellsOfA (s.ev v) with
    | .ptr n off, some xs => match lookB n s.bx with
      | some cs => xs.length = c ∧ off + c ≤ cs.length ∧ xs.all isCell = true ∧
        (match v with
          | .t i => match look i s.t, ownOf i s.own with
            | .d (.sl c' es), some oc => K { s with bx := setB n (cs.set off (.d (.sl c' es))) s.bx, own := (.b n off, oc) :: dropOr n off (off + c) (dropOt i s.own) }
            | _, _ => K { s with bx := setB n (lay cs off xs) s.bx, own := dropOr n off (off + c) s.own }
          | .c _ => K { s with bx := setB n (lay cs off xs) s.bx, own := dropOr n off (off + c) s.own })
      | none => False
    | _, _ => False
  | .nilck x => match s.ev x with
    | .ptr n o => K (s.setd d (.ptr n o))
    | .ep e => K (s.setd d (.ep e))
    | .clo f cs => K (s.setd d (.clo f cs))
    | _ => False
  | .bin op x y => match s.ev x, s.ev y with
    | .d (.int k a), .d (.int k' b) => (isShift op = true ∨ k = k') ∧ vcInt op k a b (fun v => K (s.setd d v))
    | .d (.str a), .d (.str b) => vcStr op a b (fun v => K (s.setd d v))
    | _, _ => False
  | .binB neg x y => match s.ev x, s.ev y with
    | .d (.bool a), .d (.bool b) => K (s.setd d (.d (.bool (bif neg then a != b else a == b))))
    | _, _ => False
  | .isnil neg kd x => match kd, s.ev x with
    | 0, .ptr _ _ => K (s.setd d (.d (.bool neg)))
    | 0, .ep _ => K (s.setd d (.d (.bool neg)))
    | 0, .d .nilp => K (s.setd d (.d (.bool !neg)))
    | 1, .d (.sl _ es) => (es = [] → K (s.setd d (.d (.bool !neg)))) ∧ K (s.setd d (.d (.bool neg)))
    | 2, .d .nilif => K (s.setd d (.d (.bool !neg)))
    | 2, .d (.iface _ _ _) => K (s.setd d (.d (.bool neg)))
    | 3, .clo _ _ => K (s.setd d (.d (.bool neg)))
    | 3, .d .nilfn => K (s.setd d (.d (.bool !neg)))
    | _, _ => False
  | .idn x => match s.ev x with
    | .d (.str b) => K (s.setd d (.d (.str b)))
    | _ => False
  | .eqs neg ks x y => match s.ev x, s.ev y with
    | .agg xs, .agg ys => match eqCells ks xs ys with
      | some b => K (s.setd d (.d (.bool (bif neg then !b else b))))
      | none => False
    | _, _ => False
  | .un op x => match op, s.ev x with
    | .not, .d (.bool b) => K (s.setd d (.d (.bool !b)))
    | .neg, .d (.int k n) => K (s.setd d (.d (.int k (k.wrap (0 - n)))))
    | .xor, .d (.int k n) => K (s.setd d (.d (.int k (ibits .xor k (bif k.signed then -1 else k.max) n))))
    | _, _ => False
  | .cvi k x => match s.ev x with
    | .d (.int _ n) => K (s.setd d (.d (.int k (k.wrap n))))
    | _ => False
  | .cvb x => match d, s.ev x with
    | some d, .d (.str b) => b.length ≤ maxL → K (s.setO d 1 (.d (.sl 1 (b.map bc))))
    | _, _ => False
  | .cvl x => match x, d, s.ev x with
    | .t _, some d, .bsl m 0 len cap => match lookB m s.bx with
      | some cs => match toDs cs with
        | some ds => (len = cap ∧ len = ds.length ∧ len ≤ maxL ∧ s.k ≤ m) ∧ K { s with t := (d, .ful 1 (ds.map fun x => [x])) :: frzT m ds s.t, bx := frzB m ds s.bx, own := dropOt d (frzO m s.own) }
        | none => False
      | none => False
    | _, _, _ => False
  | .cvs x => match s.ev x with
    | .d (.sl c es) => (c = 1 ∨ es = []) ∧ (es.length ≤ maxL → ∃ bs : List UInt8, es = bs.map bc ∧ K (s.setd d (.d (.str bs))))
    | _ => False
  | .fa off x => match s.ev x with
    | .ptr n o => K (s.setd d (.ptr n (o + off)))
    | .ep e => K (s.setd d (.ep (e.drop off)))
    | _ => False
  | .fld ag off c x => match s.ev x with
    | .agg cs => match ag with
      | true => off + c ≤ cs.length ∧ K (s.setd d (.agg ((cs.drop off).take c)))
      | false => ∃ a, cs[off]? = some a ∧ K (s.setd d a)
    | _ => False
  | .ixa n c x i => match s.ev x, s.ev i with
    | .ptr m o, .d (.int _ j) => (0 ≤ j ∧ j < n) ∧ K (s.setd d (.ptr m (o + j.toNat * c)))
    | .ep e, .d (.int _ j) => (0 ≤ j ∧ j < n) ∧ K (s.setd d (.ep (e.drop (j.toNat * c))))
    | _, _ => False
  | .ixs c x i => match s.ev x, s.ev i with
    | .d (.sl c' es), .d (.int _ j) => (c' = c ∨ es = []) ∧ (0 ≤ j ∧ j < es.length) ∧ K (s.setd d (.ep (es.getD j.toNat [])))
    | .bsl n o len _, .d (.int _ j) => (0 ≤ j ∧ j < len) ∧ K (s.setd d (.ptr n (o + j.toNat * c)))
    | _, _ => False
  | .ixv ag n c x i => match s.ev x, s.ev i with
    | .agg cs, .d (.int _ j) => (0 ≤ j ∧ j < n) ∧ (match ag with
      | true => j.toNat * c + c ≤ cs.length ∧ K (s.setd d (.agg ((cs.drop (j.toNat * c)).take c)))
      | false => ∃ a, cs[j.toNat * c]? = some a ∧ K (s.setd d a))
    | _, _ => False
  | .ixc x i => match s.ev x, s.ev i with
    | .d (.str b), .d (.int _ j) => (0 ≤ j ∧ j < b.length) ∧ K (s.setd d (.d (.int .u8 (b.getD j.toNat 0).toNat)))
    | _, _ => False
  | .len x => match s.ev x with
    | .d (.sl _ es) => es.length ≤ maxL → K (s.setd d (.d (.int .i64 es.length)))
    | .bsl _ _ len _ => K (s.setd d (.d (.int .i64 len)))
    | _ => False
  | .lenS x => match s.ev x with
    | .d (.str b) => b.length ≤ maxL → K (s.setd d (.d (.int .i64 b.length)))
    | _ => False
  | .lenA n => K (s.setd d (.d (.int .i64 n)))
  | .slc c x lo hi tr => match s.ev x with
    | .d (.sl c' es) => (c' = c ∨ es = []) ∧ (es.length ≤ maxL → vcBounds s es.length lo hi (fun l h => match tr, x, hi, d with
      | true, .t i, none, some d => (match ownOf i s.own with
        | some oc => oc = c ∧ K { s with t := (d, .d (.sl c (es.drop l))) :: s.t, own := (.t d, oc) :: dropOt i (dropOt d s.own) }
        | none => K (s.set d (.d (.sl c ((es.take h).drop l)))))
      | _, _, _, _ => K (s.setd d (.d (.sl c ((es.take h).drop l))))))
    | .bsl n o len cap => len ≤ cap ∧ vcBounds s len lo hi (fun l h => l < cap ∧ K (s.setd d (.bsl n (o + l * c) (h - l) (cap - l))))
    | _ => False
  | .slc3 c x lo hi mx => match s.ev x, s.ev hi, s.ev mx, d with
    | .d (.sl c' es), .d (.int _ b), .d (.int _ m), some d => (c' = c ∨ es = []) ∧ (es.length ≤ maxL → b = m ∧ m ≤ es.length ∧
        vcBounds s es.length lo (some hi) (fun l h => K (s.setO d c (.d (.sl c ((es.take h).drop l))))))
    | _, _, _, _ => False
  | .sla n c x lo hi => match s.ev x with
    | .ptr m o => vcBounds s n lo hi (fun l h => l < n ∧ K (s.setd d (.bsl m (o + l * c) (h - l) (n - l))))
    | _ => False
  | .sls x lo hi => match s.ev x with
    | .d (.str b) => b.length ≤ maxL → vcBounds s b.length lo hi (fun l h => K (s.setd d (.d (.str ((b.take h).drop l)))))
    | _ => False
  | .app c bytes st x => match d, st, s.ev st with
    | some d, .t i, .d (.sl c' es) => (c' = c ∨ es = []) ∧ ownOf i s.own = some c ∧ (es.length ≤ maxL → srcCells s c (s.ev x) (fun xs =>
        es.length + xs.length ≤ maxL ∧ (es.length + xs.length) * bytes ≤ 140737488355328 ∧
        K { s with t := (d, .d (.sl c (es ++ xs))) :: s.t, own := (.t d, c) :: dropOt i (dropOt d s.own) }))
    | some d, .c _, .d (.sl _ es) => es = [] ∧ srcCells s c (s.ev x) (fun xs => xs.length ≤ maxL ∧ xs.length * bytes ≤ 140737488355328 ∧ K (s.setO d c (.d (.sl c xs))))
    | _, _, _ => False
  | .cpy c dd x => match s.ev dd with
    | .bsl n o len _ => ∃ cs, lookB n s.bx = some cs ∧ o + len * c ≤ cs.length ∧ srcCells s c (s.ev x) (fun xs =>
        K ({ s with bx := setB n (lay cs o ((xs.take len).flatten.map .d)) s.bx, own := dropOr n o (o + len * c) s.own }.setd d (.d (.int .i64 (min xs.length len : Nat)))))
    | _ => False
  | .s2a n c x => match s.ev x with
    | .d (.sl c' es) => (c' = c ∨ es = []) ∧ n ≤ es.length ∧ 0 < n ∧ K (s.setd d (.ep es.flatten))
    | .bsl m o len _ => n ≤ len ∧ K (s.setd d (.ptr m o))
    | _ => False
  | .mkif t x => match s.ev x with
    | .d v => K (s.setd d (.d (.iface t false [v])))
    | .agg cs => match toDs cs with
      | some ds => K (s.setd d (.d (.iface t true ds)))
      | none => False
    | _ => False
  | .tas t ok x => match s.ev x with
    | .d (.iface t' ag cs) => t' = t ∧ (match ag, cs with
      | true, cs => K (s.setd d (bif ok then .tup [.agg (cs.map .d), .d (.bool true)] else .agg (cs.map .d)))
      | false, [y] => K (s.setd d (bif ok then .tup [.d y, .d (.bool true)] else .d y))
      | _, _ => False)
    | _ => False
  | .panic x => match s.ev x with
    | .d (.iface t ag cs) => KP (.iface t ag cs)
    | _ => False
  | .ext x i => match s.ev x with
    | .tup vs => ∃ a, vs[i]? = some a ∧ K (s.setd d a)
    | _ => False
  | .clo f caps => K (s.setd d (.clo f (caps.map s.ev)))

end Go.Vx

/- What each operation does, against its condition: the operations that only compute. -/
namespace Go.Vx
set_option linter.unusedVariables false
set_option linter.unusedSimpArgs false
open Go

theorem Rel.heapEq {X : Ctx} {σ : Store} {β : Names} {s : St} {a : Act} {w w' : World} (h : Rel X σ β s a w) (hh : w'.heap = w.heap) : Rel X σ β s a w' :=
  h.move (fun _ => False) (fun b _ _ => .inl (by rw [hh])) (by rw [hh]; exact Nat.le_refl _) (Store.le_refl _) (fun b o v hv => by rw [cell_of_heap (w := w) (w' := w') (b := b) (by rw [hh])]; exact h.st b o v hv)
    (fun _ _ _ _ => rfl) (fun _ hd => hd.elim) (fun _ _ _ _ _ _ _ hd => hd.elim)

theorem Step.heapEq (X : Ctx) (k : Nat) (σ : Store) (β : Names) {w w' : World} (hh : w'.heap = w.heap) (h1 : w'.os = w.os) (h2 : w'.tape = w.tape) (h3 : w'.output = w.output) :
    Step X k σ β w σ β w' := ⟨Store.le_refl _, fun _ _ => ⟨by rw [hh], fun _ => rfl⟩, by rw [hh]; exact Nat.le_refl _, h1, h2, h3, fun _ _ => rfl⟩

/-- A block's end is marked. -/
def markW (w : World) (b : Nat) : World := match w.shape? b with
  | some (_, n) => w.freeze ⟨b, n, none⟩ 1
  | none => w

theorem markW_alike (w : World) (b b' : Nat) : Alike w.heap[b']? (markW w b).heap[b']? := by
  unfold markW World.shape?
  cases hq : w.heap[b]? with
  | none => exact .inl rfl
  | some ob =>
    cases ob with
    | cells arr T fz =>
      simp only
      show Alike _ (w.heap.modify b _)[b']?
      rw [Array.getElem?_modify]
      by_cases hb : b = b'
      · subst hb
        rw [if_pos rfl, hq]
        obtain ⟨lo, hi⟩ := fz
        refine .inr ⟨arr, T, (lo, hi), _, rfl, rfl, fun h => ?_⟩
        simp only [Unf] at h ⊢
        by_cases he : lo = hi
        · simp [he]
        · have : (lo == hi) = false := by simpa using he
          rw [this]
          simp only [Bool.false_eq_true, if_false]
          right
          show arr.size ≤ min lo arr.size
          omega
      · rw [if_neg hb]; exact .inl rfl
    | _ => exact .inl rfl

theorem markW_size (w : World) (b : Nat) : (markW w b).heap.size = w.heap.size := by
  unfold markW
  split
  · simp [World.freeze]
  · rfl
theorem markW_os (w : World) (b : Nat) : (markW w b).os = w.os ∧ (markW w b).tape = w.tape ∧ (markW w b).output = w.output := by
  unfold markW
  split
  · simp [World.freeze]
  · exact ⟨rfl, rfl, rfl⟩

theorem Rel.mark {X : Ctx} {σ : Store} {β : Names} {s : St} {a : Act} {w : World} (h : Rel X σ β s a w) (b : Nat) : Rel X σ β s a (markW w b) :=
  h.move (fun _ => False) (fun b' _ _ => markW_alike w b b') (by rw [markW_size]; exact Nat.le_refl _) (Store.le_refl _) (fun b' o v hv => by rw [(markW_alike w b b').cell]; exact h.st b' o v hv)
    (fun _ _ _ _ => rfl) (fun _ hd => hd.elim) (fun _ _ _ _ _ _ _ hd => hd.elim)

theorem markW_other (w : World) {b b' : Nat} (h : b' ≠ b) : (markW w b).heap[b']? = w.heap[b']? := by
  unfold markW
  split
  · show (w.heap.modify b _)[b']? = _
    rw [Array.getElem?_modify, if_neg (fun e => h e.symm)]
  · rfl

theorem Step.mark (X : Ctx) (k : Nat) (σ : Store) (β : Names) (w : World) (b : Nat) (hx : ¬ X b) : Step X k σ β w σ β (markW w b) :=
  ⟨Store.le_refl _, fun b' hb => ⟨markW_other w (fun e => hx (e ▸ hb)), fun _ => rfl⟩, by rw [markW_size]; exact Nat.le_refl _, (markW_os w b).1, (markW_os w b).2.1, (markW_os w b).2.2, fun _ _ => rfl⟩

/-- Behind an operation. -/
def Nx (X : Ctx) (n k : Nat) (σ : Store) (β : Names) (w : World) (K : St → Prop) : Act → World → Prop := fun a' w' =>
  ∃ s' σ' β', K s' ∧ s'.n = n ∧ s'.k = k ∧ Rel X σ' β' s' a' w' ∧ Step X k σ β w σ' β' w'

/-- Behind a panic. -/
def Pn (X : Ctx) (s : St) (σ : Store) (β : Names) (w : World) (KP : D → Prop) : Exit → Act → World → Prop := fun e a' w' =>
  ∃ x v, e = .panic [{ v, recovered := false }] ∧ Reads σ x v ∧ KP x ∧ Rel X σ β s a' w' ∧ Step X s.k σ β w σ β w'

theorem Rel.setd {X : Ctx} {σ : Store} {β : Names} {s : St} {a : Act} {w : World} (h : Rel X σ β s a w) {d : Option Nat} (hd : ∀ i, d = some i → i < s.n) {x : A} {v : Value}
    (hx : RA σ β x v) : Rel X σ β (s.setd d x) (a.put d v) w := by
  cases d with
  | none => exact h
  | some d => exact h.put (hd d rfl) hx

theorem setd_n (s : St) (d : Option Nat) (x : A) : (s.setd d x).n = s.n := by cases d <;> rfl
theorem setd_k (s : St) (d : Option Nat) (x : A) : (s.setd d x).k = s.k := by cases d <;> rfl

/-- An operation that only computes. -/
theorem fin {P : Program} {o : Oper} {X : Ctx} {σ : Store} {β : Names} {s : St} {a : Act} {w : World} (h : Rel X σ β s a w) (hd : ∀ i, o.dst = some i → i < s.n)
    {x : A} {v : Value} (hx : RA σ β x v) (hrun : (execOp a.eval o).run P w = .ok (.value v) w) {K : St → Prop} (hk : K (s.setd o.dst x)) {Q : Exit → Act → World → Prop} :
    o.wp P a w (Nx X s.n s.k σ β w K) Q := by
  unfold Oper.wp
  rw [hrun, Oper.upon_value]
  exact ⟨_, σ, β, hk, setd_n _ _ _, setd_k _ _ _, h.setd hd hx, Step.refl _ _ _ _ _⟩

theorem ev_ok {X : Ctx} {σ : Store} {β : Names} {s : St} {a : Act} {w : World} (h : Rel X σ β s a w) {x : Operand} {y : Opd} (hc : cOpd x = some y) : RA σ β (s.ev y) (a.eval x) := by
  cases x with
  | tmp t => simp only [cOpd, Option.some.injEq] at hc; subst hc; exact h.tmp t
  | const v =>
    simp only [cOpd] at hc
    cases hv : aOf v with
    | none => rw [hv] at hc; cases hc
    | some y' =>
      rw [hv] at hc
      simp only [Option.map_some, Option.some.injEq] at hc
      subst hc
      show RA σ β y' v
      unfold aOf at hv
      split at hv <;> (try (cases hv; done)) <;> (try (simp only [Option.some.injEq] at hv; subst hv))
      · exact .d _ _ (.int _ _)
      · exact .d _ _ (.bool _)
      · rename_i s0
        split at hv
        · simp only [Option.some.injEq] at hv
          subst hv
          refine .d _ _ ?_
          have := Reads.str (σ := σ) s0.data.toList (by simpa using ‹s0.size ≤ maxL›)
          simpa using this
        · cases hv
      · exact .d _ _ .nilp
      · exact .d _ _ .nilif
      · exact .d _ _ .nilfn
      · exact .d _ _ (.slnil 0)
  | func f =>
    simp only [cOpd, Option.some.injEq] at hc; subst hc
    exact .clo f [] #[] rfl (fun i x hx => by simp at hx)
  | global g => simp [cOpd] at hc

theorem ra_bool {σ : Store} {β : Names} {b : Bool} {v : Value} (h : RA σ β (.d (.bool b)) v) : v = .bool b := by
  cases h with | d _ _ h => cases h; rfl
theorem ra_int {σ : Store} {β : Names} {k : IntKind} {n : Int} {v : Value} (h : RA σ β (.d (.int k n)) v) : v = .int k n := by
  cases h with | d _ _ h => cases h; rfl
theorem ra_str {σ : Store} {β : Names} {s : List UInt8} {v : Value} (h : RA σ β (.d (.str s)) v) : v = .string ⟨s.toArray⟩ ∧ s.length ≤ maxL := by
  cases h with | d _ _ h => cases h; exact ⟨rfl, ‹_›⟩
theorem ra_ptr {σ : Store} {β : Names} {n o : Nat} {v : Value} (h : RA σ β (.ptr n o) v) : ∃ b, β n = some b ∧ v = .pointer (some ⟨b, o, none⟩) := by
  cases h with | ptr _ _ b h => exact ⟨b, h, rfl⟩
theorem ra_bsl {σ : Store} {β : Names} {n o l c : Nat} {v : Value} (h : RA σ β (.bsl n o l c) v) : ∃ b, β n = some b ∧ v = .slice (some ⟨b, o, none⟩) l c := by
  cases h with | bsl _ _ _ _ b h => exact ⟨b, h, rfl⟩
theorem ra_agg {σ : Store} {β : Names} {cs : List A} {v : Value} (h : RA σ β (.agg cs) v) :
    ∃ vs : Array Value, v = .agg vs ∧ cs.length = vs.size ∧ ∀ i x, cs[i]? = some x → RA σ β x (vs.getD i undef) := by
  cases h with | agg _ vs hn h => exact ⟨vs, rfl, hn, h⟩
theorem ra_tup {σ : Store} {β : Names} {cs : List A} {v : Value} (h : RA σ β (.tup cs) v) :
    ∃ vs : Array Value, v = .tuple vs ∧ cs.length = vs.size ∧ ∀ i x, cs[i]? = some x → RA σ β x (vs.getD i undef) := by
  cases h with | tup _ vs hn h => exact ⟨vs, rfl, hn, h⟩
theorem ra_ep {σ : Store} {β : Names} {e : List D} {v : Value} (h : RA σ β (.ep e) v) :
    ∃ (b off : Nat) (f : Nat → Value), v = .pointer (some ⟨b, off, none⟩) ∧ (∀ j x, e[j]? = some x → σ b (off + j) = some (f j)) ∧ ∀ j x, e[j]? = some x → Reads σ x (f j) := by
  cases h with | ep _ b off f hs hr => exact ⟨b, off, f, rfl, hs, hr⟩

/-- A slice: nothing in it, at whatever address; or cells. -/
theorem ra_sl {σ : Store} {β : Names} {c : Nat} {es : List (List D)} {v : Value} (h : RA σ β (.d (.sl c es)) v) :
    es.length ≤ maxL ∧ ((es = [] ∧ ∃ base, v = .slice base 0 0) ∨
      ∃ (b off cap : Nat) (f : Nat → Nat → Value), v = .slice (some ⟨b, off, none⟩) es.length cap ∧ es.length ≤ cap ∧ (∀ e, e ∈ es → e.length = c) ∧
        (∀ i e, es[i]? = some e → ∀ j x, e[j]? = some x → σ b (off + i * c + j) = some (f i j)) ∧ ∀ i e, es[i]? = some e → ∀ j x, e[j]? = some x → Reads σ x (f i j)) := by
  cases h with
  | d _ _ h =>
    cases h with
    | slnil => exact ⟨by simp, .inl ⟨rfl, _, rfl⟩⟩
    | slodd => exact ⟨by simp, .inl ⟨rfl, _, rfl⟩⟩
    | sl _ _ b off cap f hl hcap hc hs hr => exact ⟨hl, .inr ⟨b, off, cap, f, rfl, hcap, hc, hs, hr⟩⟩

/-- The same slice, its elements' size told otherwise (there is none in it). -/
theorem reads_sl0 {σ : Store} {c : Nat} (base : Option Addr) : Reads σ (.sl c []) (.slice base 0 0) := by
  cases base with
  | none => exact .slnil c
  | some a => exact .slodd c a

theorem reads_sl_nil {σ : Store} {c c' : Nat} {v : Value} (h : Reads σ (.sl c' []) v) : Reads σ (.sl c []) v := by
  cases h with
  | slnil => exact .slnil c
  | slodd _ a => exact .slodd c a
  | sl _ _ b off cap f hl hcap hc hs hr => exact .sl c [] b off cap f hl hcap (by simp) (by simp) (by simp)

theorem reads_sl_c {σ : Store} {β : Names} {c c' : Nat} {es : List (List D)} {v : Value} (hc : c' = c ∨ es = []) (h : RA σ β (.d (.sl c' es)) v) : RA σ β (.d (.sl c es)) v := by
  rcases hc with rfl | rfl
  · exact h
  · cases h with | d _ _ h => exact .d _ _ (reads_sl_nil h)

section run
variable {P : Program}

theorem run_move (o : Oper) (x : Operand) (a : Act) (w : World) (h : o.op = .move x ∨ o.op = .assign x) : (execOp a.eval o).run P w = .ok (.value (a.eval x)) w := by
  rcases h with h | h <;> simp [execOp, h]

end run

theorem mem_take_own {s : St} {i c : Nat} (h : ownOf i s.own = some c) : (Loc.t i, c) ∈ s.own := by
  have : ∀ ow : List (Loc × Nat), ownOf i ow = some c → (Loc.t i, c) ∈ ow := by
    intro ow
    induction ow with
    | nil => intro h; cases h
    | cons p r ih =>
      obtain ⟨q, e⟩ := p
      cases q with
      | t j =>
        simp only [ownOf]
        by_cases hij : i = j
        · subst hij; simp only [beq_self_eq_true, cond_true, Option.some.injEq]; intro e; subst e; exact .head _
        · have : (i == j) = false := by simpa using hij
          rw [this]; intro h; exact .tail _ (ih h)
      | b n o => intro h; exact .tail _ (ih h)
  exact this _ h

/-- A move that takes ownership along. -/
theorem Rel.take {X : Ctx} {σ : Store} {β : Names} {s : St} {a : Act} {w : World} (h : Rel X σ β s a w) {d i : Nat} (hd : d < s.n) :
    Rel X σ β (s.take d i) (a.put (some d) (a.tmps.getD i undef)) w := by
  have h1 := h.put hd (h.tmp i)
  unfold St.take
  cases ho : ownOf i s.own with
  | none => exact h1
  | some c =>
    have hm := mem_take_own ho
    have hd' : d < a.tmps.size := h.size ▸ hd
    by_cases e : i = d
    · -- it stays where it is
      subst e
      have hsame : (a.put (some i) (a.tmps.getD i undef)) = a := by
        cases a
        simp only [Act.put]
        congr 1
        simp only at hd'
        apply Array.ext_getElem?
        intro j
        rw [Array.getElem?_setIfInBounds]
        by_cases ej : i = j
        · subst ej
          simp [Array.getD_eq_getD_getElem?, hd']
        · simp [ej]
      obtain ⟨v, hv, hov⟩ := h.own _ _ hm
      refine Rel.addOwn (s := { s with t := (i, look i s.t) :: s.t, own := dropOt i (dropOt i s.own) }) ?_ (v := v) ?_ hov ?_
      · exact h1.sub rfl rfl (fun _ => .inr rfl) (fun p hp => (mem_dropOt (l := p.1) (c := p.2) hp).1)
      · rw [hsame]; exact hv
      · intro l' c' v' b hl hne hv' hb
        rw [hsame] at hv'
        have := (mem_dropOt (mem_dropOt hl).1)
        exact h.sep l' c' _ c this.1 hm hne v' v b hv' hv hb
    · obtain ⟨v, hv, hov⟩ := h.own _ _ hm
      have hv' : v = a.tmps.getD i undef := by simpa [locVal] using hv.symm
      have hti : locVal β (a.put (some d) (a.tmps.getD i undef)) w (.t i) = some v := by
        simp only [locVal, Act.put]
        rw [getD_set _ _ _ _ hd', if_neg e, hv']
      have htd : locVal β (a.put (some d) (a.tmps.getD i undef)) w (.t d) = some v := by
        simp only [locVal, Act.put]
        rw [getD_set _ _ _ _ hd', if_pos rfl, hv']
      have hmem : (Loc.t i, c) ∈ (s.set d (look i s.t)).own := by
        show (Loc.t i, c) ∈ dropOt d s.own
        have : ∀ ow : List (Loc × Nat), (Loc.t i, c) ∈ ow → (Loc.t i, c) ∈ dropOt d ow := by
          intro ow
          induction ow with
          | nil => intro h; exact h
          | cons p r ih =>
            obtain ⟨q, ec⟩ := p
            intro hp
            rcases List.mem_cons.1 hp with e1 | hp'
            · cases e1
              have : (i == d) = false := by simpa using e
              simp [dropOt, this]
            · clear hp
              cases q with
              | t j =>
                cases hj : j == d with
                | true => simp only [dropOt, hj, cond_true]; exact ih hp'
                | false => simp only [dropOt, hj, cond_false]; exact .tail _ (ih hp')
              | b n o => simp only [dropOt]; exact .tail _ (ih hp')
        exact this _ hm
      have := h1.moveOwn (l := .t i) (l' := .t d) hmem hti htd (ow := dropOt i (dropOt d s.own)) (fun p hp => by
        have := mem_dropOt (l := p.1) (c := p.2) hp
        exact ⟨this.1, this.2⟩)
      exact this

end Go.Vx

/- Soundness of the operations that only compute. -/
namespace Go.Vx
set_option linter.unusedVariables false
set_option linter.unusedSimpArgs false
open Go

section
variable {P : Program} {o : Oper} {X : Ctx} {σ : Store} {β : Names} {s : St} {a : Act} {w : World} {K : St → Prop} {KP : D → Prop}

theorem s_mv (h : Rel X σ β s a w) (hd : ∀ i, o.dst = some i → i < s.n) {x : Operand} {y : Opd} {tr : Bool} (ho : o.op = .move x ∨ o.op = .assign x) (hx : cOpd x = some y)
    (hv : vcOp (.mv y tr) o.dst s K KP) : o.wp P a w (Nx X s.n s.k σ β w K) (Pn X s σ β w KP) := by
  have hrun := run_move (P := P) o x a w ho
  have hg : K (s.setd o.dst (s.ev y)) → o.wp P a w (Nx X s.n s.k σ β w K) (Pn X s σ β w KP) := fun hk => fin h hd (ev_ok h hx) hrun hk
  simp only [vcOp] at hv
  split at hv
  · rename_i i d hdd
    cases x with
    | tmp t =>
      simp only [cOpd, Option.some.injEq, Opd.t.injEq] at hx
      subst hx
      unfold Oper.wp
      rw [hrun, Oper.upon_value]
      refine ⟨_, σ, β, hv, ?_, ?_, ?_, Step.refl _ _ _ _ _⟩
      · unfold St.take; split <;> rfl
      · unfold St.take; split <;> rfl
      · rw [hdd]; exact h.take (hd d hdd)
    | const v => simp only [cOpd] at hx; cases hq : aOf v <;> rw [hq] at hx <;> simp at hx
    | func f => simp [cOpd] at hx
    | global g => simp [cOpd] at hx
  · exact hg hv

theorem setO_rel (h : Rel X σ β s a w) {d c : Nat} (hd : d < s.n) {x : A} {v : Value} (hx : RA σ β x v) (ho : OwnV X σ β w c v)
    (hs : ∀ l' c' v' b, (l', c') ∈ s.own → l' ≠ .t d → locVal β a w l' = some v' → ownB v' = some b → ownB v ≠ some b) : Rel X σ β (s.setO d c x) (a.put (some d) v) w := by
  have h1 := h.put hd hx
  have hd' : d < a.tmps.size := h.size ▸ hd
  refine Rel.addOwn (s := s.set d x) h1 (v := v) ?_ ho ?_
  · simp only [locVal, Act.put]
    rw [getD_set _ _ _ _ hd', if_pos rfl]
  · intro l' c' v' b hl hne hv' hb
    obtain ⟨hm, _⟩ := mem_dropOt hl
    refine hs l' c' v' b hm hne ?_ hb
    cases l' with
    | t i =>
      simp only [locVal, Act.put] at hv'
      rw [getD_set _ _ _ _ hd', if_neg (fun e => hne (by rw [e]))] at hv'
      exact hv'
    | b n o => exact hv'

theorem s_nil (h : Rel X σ β s a w) (hd : ∀ i, o.dst = some i → i < s.n) {c : Nat} {x : Operand} (ho : o.op = .move x ∨ o.op = .assign x) (hx : isNilSlice x = true)
    (hv : vcOp (.nil c) o.dst s K KP) : o.wp P a w (Nx X s.n s.k σ β w K) (Pn X s σ β w KP) := by
  have hrun := run_move (P := P) o x a w ho
  have he : a.eval x = .slice none 0 0 := by
    unfold isNilSlice at hx
    split at hx
    · rfl
    · cases hx
  rw [he] at hrun
  unfold Oper.wp
  rw [hrun, Oper.upon_value]
  simp only [vcOp] at hv
  split at hv
  · rename_i d hdd
    rw [hdd]
    refine ⟨_, σ, β, hv, rfl, rfl, ?_, Step.refl _ _ _ _ _⟩
    exact setO_rel h (hd d hdd) (.d _ _ (.slnil c)) (fun b off len cap e => by cases e) (fun _ _ _ _ _ _ _ _ e => by simp [ownB] at e)
  · rename_i hdd
    rw [hdd]
    exact ⟨_, σ, β, hv, rfl, rfl, h, Step.refl _ _ _ _ _⟩

theorem s_pick (h : Rel X σ β s a w) (hd : ∀ i, o.dst = some i → i < s.n) {c x y : Operand} {c' x' y' : Opd} (ho : o.op = .pick c x y) (hc : cOpd c = some c') (hx : cOpd x = some x') (hy : cOpd y = some y')
    (hv : vcOp (.pick c' x' y') o.dst s K KP) : o.wp P a w (Nx X s.n s.k σ β w K) (Pn X s σ β w KP) := by
  simp only [vcOp] at hv
  have h1 := ev_ok h hc
  split at hv
  · rename_i t ht
    rw [ht] at h1
    have e := ra_bool h1
    cases t with
    | true => exact fin h hd (ev_ok h hx) (by simp [execOp, ho, e, asBool]) (hv.1 rfl)
    | false => exact fin h hd (ev_ok h hy) (by simp [execOp, ho, e, asBool]) (hv.2 rfl)
  · exact hv.elim

theorem s_nilck (h : Rel X σ β s a w) (hd : ∀ i, o.dst = some i → i < s.n) {x : Operand} {x' : Opd} (ho : o.op = .nilCheck x) (hx : cOpd x = some x')
    (hv : vcOp (.nilck x') o.dst s K KP) : o.wp P a w (Nx X s.n s.k σ β w K) (Pn X s σ β w KP) := by
  simp only [vcOp] at hv
  have h1 := ev_ok h hx
  split at hv
  · rename_i n off he
    rw [he] at h1
    obtain ⟨b, hb, e⟩ := ra_ptr h1
    exact fin h hd h1 (by simp [execOp, ho, e]) hv
  · rename_i e he
    rw [he] at h1
    obtain ⟨b, off, f, e1, _, _⟩ := ra_ep h1
    exact fin h hd h1 (by simp [execOp, ho, e1]) hv
  · rename_i f cs he
    rw [he] at h1
    cases h1' : a.eval x with
    | func fn first caps =>
      rw [h1'] at h1
      cases h1 with | clo f cs vs hn hh =>
      refine fin (v := .func (.func f) #[] caps) h hd (.clo f cs caps hn hh) ?_ hv
      simp [execOp, ho, h1']
    | _ => rw [h1'] at h1; cases h1
  · exact hv.elim

theorem int_run {op : BinOp} {k k' : IntKind} {m n : Int} (hk : isShift op = true ∨ k = k') {K : A → Prop} (hv : vcInt op k m n K) (t : TypeId) :
    ∃ x v, K x ∧ RA σ β x v ∧ (binOp op t (.int k m) (.int k' n)).run P w = .ok v w := by
  cases op <;> simp only [vcInt] at hv
  case shl =>
    refine ⟨_, _, hv.2, .d _ _ (.int _ _), ?_⟩
    have : ¬ n < 0 := by omega
    simp [binOp, Op.shift, this]
  case shr =>
    refine ⟨_, _, hv.2, .d _ _ (.int _ _), ?_⟩
    have : ¬ n < 0 := by omega
    simp [binOp, Op.shift, this]
  case quo =>
    rcases hk with hk | rfl
    · cases hk
    exact ⟨_, _, hv.2, .d _ _ (.int _ _), by simp [binOp, Op.intDiv, hv.1]⟩
  case rem =>
    rcases hk with hk | rfl
    · cases hk
    exact ⟨_, _, hv.2, .d _ _ (.int _ _), by simp [binOp, Op.intDiv, hv.1]⟩
  all_goals
    rcases hk with hk | rfl
    · cases hk
    first
      | exact ⟨_, _, hv, .d _ _ (.int _ _), by simp [binOp, Op.intArith, Op.intBits, Op.intCmp, ibits]⟩
      | exact ⟨_, _, hv, .d _ _ (.bool _), by simp [binOp, Op.intArith, Op.intBits, Op.intCmp, ibits]⟩

theorem bytes_toList (l : List UInt8) : (⟨l.toArray⟩ : ByteArray).toList = l := by
  rw [ByteArray.toList_eq]

theorem str_run {op : BinOp} {m n : List UInt8} {K : A → Prop} (hm : m.length ≤ maxL) (hn : n.length ≤ maxL) (hv : vcStr op m n K) (t : TypeId) :
    ∃ x v, K x ∧ RA σ β x v ∧ (binOp op t (.string ⟨m.toArray⟩) (.string ⟨n.toArray⟩)).run P w = .ok v w := by
  cases op <;> simp only [vcStr] at hv
  case add =>
    refine ⟨_, _, hv.2, .d _ _ (.str _ (by simpa using hv.1)), ?_⟩
    have h1 : ¬ ((((⟨m.toArray⟩ : ByteArray).size + (⟨n.toArray⟩ : ByteArray).size : Nat) : Int) > IntKind.i64.max) := by
      have : (IntKind.i64.max : Int) = 9223372036854775807 := by decide
      rw [this]
      have e1 : (⟨m.toArray⟩ : ByteArray).size = m.length := by simp [ByteArray.size]
      have e2 : (⟨n.toArray⟩ : ByteArray).size = n.length := by simp [ByteArray.size]
      rw [e1, e2]
      unfold maxL at hm hn
      omega
    simp only [binOp, Op.stringOp, h1, if_false]
    simp only [Sem.run_pure]
    congr 2
  all_goals first
    | exact hv.elim
    | (refine ⟨_, _, hv, .d _ _ (.bool _), ?_⟩
       simp only [binOp, Op.stringOp, bytes_toList]
       rfl)


theorem run_size {t : TypeId} {c : Nat} (h : tySize P t = some c) (w : World) : (sizeOf t).run P w = .ok c w := by
  unfold tySize at h
  cases hi : P.info? t with
  | none => rw [hi] at h; cases h
  | some i =>
    rw [hi] at h
    simp only [Option.map_some, Option.some.injEq] at h
    simp [sizeOf, typeInfo, hi, h]

theorem run_agg {t : TypeId} {b : Bool} (h : tyAgg P t = some b) (w : World) : (isAgg t).run P w = .ok b w := by
  unfold tyAgg at h
  cases hi : P.underlying t with
  | none => rw [hi] at h; cases h
  | some d =>
    rw [hi] at h
    simp only [Option.map_some, Option.some.injEq] at h
    cases d <;> simp_all [isAgg, underlying, isAggD]

theorem eqGuard_run {op : BinOp} {t : TypeId} {x y : Operand} {v u : Value} (h : ∀ vs, v ≠ .agg vs) (h' : v ≠ .nilIface) (w : World) : (eqGuard op t x y v u).run P w = .ok () w := by
  cases v with
  | agg vs => exact (h vs rfl).elim
  | nilIface => exact (h' rfl).elim
  | _ => cases op <;> simp [eqGuard]

theorem binOp_ty {op : BinOp} {t t' : TypeId} {k k' : IntKind} {m n : Int} : binOp op t (.int k m) (.int k' n) = binOp op t' (.int k m) (.int k' n) := by
  cases op <;> rfl

theorem equal_bool {t : TypeId} (ht : P.underlying t = some .bool) (x y : Bool) (w : World) : (Op.equal t (.bool x) (.bool y)).run P w = .ok (x == y) w := by
  have : ∀ d, (Op.equalIn (d + 1) t (.bool x) (.bool y)).run P w = .ok (x == y) w := by
    intro d
    simp only [Op.equalIn, Sem.run_bind, run_underlying ht, Result.andThen_ok, Sem.run_pure]
  exact this 9999

theorem bin_bool_run {op : BinOp} {t : TypeId} (ht : P.underlying t = some .bool) {x y : Bool} (hop : op = .eql ∨ op = .neq) (w : World) :
    (binOp op t (.bool x) (.bool y)).run P w = .ok (.bool (if op = .eql then x == y else x != y)) w := by
  rcases hop with rfl | rfl
  · simp only [binOp, Sem.run_bind, equal_bool ht, Result.andThen_ok, Sem.run_pure, if_true]
  · simp only [binOp, Sem.run_bind, equal_bool ht, Result.andThen_ok, Sem.run_pure]
    rfl

theorem s_bin (h : Rel X σ β s a w) (hd : ∀ i, o.dst = some i → i < s.n) {op : BinOp} {t t' : TypeId} {x y : Operand} {x' y' : Opd} (ho : o.op = .binOp op t x y t') (hx : cOpd x = some x') (hy : cOpd y = some y')
    (hv : vcOp (.bin op x' y') o.dst s K KP) : o.wp P a w (Nx X s.n s.k σ β w K) (Pn X s σ β w KP) := by
  simp only [vcOp] at hv
  have h1 := ev_ok h hx
  have h2 := ev_ok h hy
  split at hv
  · rename_i k m k' n e1 e2
    rw [e1] at h1; rw [e2] at h2
    have q1 := ra_int h1
    have q2 := ra_int h2
    obtain ⟨r, v, hk, hr, hrun⟩ := int_run (P := P) (σ := σ) (β := β) (w := w) hv.1 hv.2 t
    refine fin h hd hr ?_ hk
    simp [execOp, ho, q1, q2, eqGuard_run, hrun]
  · rename_i m n e1 e2
    rw [e1] at h1; rw [e2] at h2
    have q1 := ra_str h1
    have q2 := ra_str h2
    obtain ⟨r, v, hk, hr, hrun⟩ := str_run (P := P) (σ := σ) (β := β) (w := w) q1.2 q2.2 hv t
    refine fin h hd hr ?_ hk
    simp [execOp, ho, q1.1, q2.1, eqGuard_run, hrun]
  · exact hv.elim

theorem s_binB (h : Rel X σ β s a w) (hd : ∀ i, o.dst = some i → i < s.n) {neg : Bool} {t t' : TypeId} {x y : Operand} {x' y' : Opd} (ho : o.op = .binOp (if neg then .neq else .eql) t x y t') (hx : cOpd x = some x') (hy : cOpd y = some y')
    (ht : P.underlying t = some .bool) (hv : vcOp (.binB neg x' y') o.dst s K KP) : o.wp P a w (Nx X s.n s.k σ β w K) (Pn X s σ β w KP) := by
  simp only [vcOp] at hv
  have h1 := ev_ok h hx
  have h2 := ev_ok h hy
  split at hv
  · rename_i m n e1 e2
    rw [e1] at h1; rw [e2] at h2
    have q1 := ra_bool h1
    have q2 := ra_bool h2
    cases neg with
    | true =>
      refine fin h hd (.d _ _ (.bool _)) ?_ hv
      simp only [if_true] at ho
      simp [execOp, ho, q1, q2, eqGuard_run, bin_bool_run ht]
    | false =>
      refine fin h hd (.d _ _ (.bool _)) ?_ hv
      simp only [Bool.false_eq_true, if_false] at ho
      simp [execOp, ho, q1, q2, eqGuard_run, bin_bool_run ht]
  · exact hv.elim

theorem s_un (h : Rel X σ β s a w) (hd : ∀ i, o.dst = some i → i < s.n) {op : UnOp} {t : TypeId} {x : Operand} {x' : Opd} (ho : o.op = .unOp op t x) (hx : cOpd x = some x')
    (hv : vcOp (.un op x') o.dst s K KP) : o.wp P a w (Nx X s.n s.k σ β w K) (Pn X s σ β w KP) := by
  simp only [vcOp] at hv
  have h1 := ev_ok h hx
  split at hv
  · rename_i b e1
    rw [e1] at h1
    have q1 := ra_bool h1
    exact fin h hd (.d _ _ (.bool _)) (by simp [execOp, ho, q1, Op.unary]) hv
  · rename_i k n e1
    rw [e1] at h1
    have q1 := ra_int h1
    exact fin h hd (.d _ _ (.int _ _)) (by simp [execOp, ho, q1, Op.unary, Op.intArith]) hv
  · rename_i k n e1
    rw [e1] at h1
    have q1 := ra_int h1
    refine fin h hd (.d _ _ (.int _ _)) ?_ hv
    simp only [execOp, ho, q1, Op.unary, Op.intBits, ibits, Bool.cond_eq_ite]
    simp
  · exact hv.elim

theorem s_cvi (h : Rel X σ β s a w) (hd : ∀ i, o.dst = some i → i < s.n) {k k0 : IntKind} {src dst : TypeId} {x : Operand} {x' : Opd} (ho : o.op = .convert src dst x) (hx : cOpd x = some x')
    (hs : P.underlying src = some (.int k0)) (ht : P.underlying dst = some (.int k)) (hv : vcOp (.cvi k x') o.dst s K KP) : o.wp P a w (Nx X s.n s.k σ β w K) (Pn X s σ β w KP) := by
  simp only [vcOp] at hv
  have h1 := ev_ok h hx
  split at hv
  · rename_i k1 n e1
    rw [e1] at h1
    have q1 := ra_int h1
    exact fin h hd (.d _ _ (.int _ _)) (by simp [execOp, ho, q1, convert, run_underlying hs, run_underlying ht, Conv.intToInt]) hv
  · exact hv.elim

theorem s_idn (h : Rel X σ β s a w) (hd : ∀ i, o.dst = some i → i < s.n) {src dst : TypeId} {x : Operand} {x' : Opd} (ho : o.op = .convert src dst x) (hx : cOpd x = some x')
    (hs : P.underlying src = some .string) (ht : P.underlying dst = some .string) (hv : vcOp (.idn x') o.dst s K KP) : o.wp P a w (Nx X s.n s.k σ β w K) (Pn X s σ β w KP) := by
  simp only [vcOp] at hv
  have h1 := ev_ok h hx
  split at hv
  · rename_i b hb
    rw [hb] at h1
    have q1 := ra_str h1
    refine fin h hd h1 ?_ hv
    simp [execOp, ho, q1.1, convert, run_underlying hs, run_underlying ht]
  · exact hv.elim

theorem s_fa (h : Rel X σ β s a w) (hd : ∀ i, o.dst = some i → i < s.n) {t : TypeId} {x : Operand} {x' : Opd} {i c : Nat} {fs : Array Field} {f : Field} (ho : o.op = .fieldAddr t x i) (hx : cOpd x = some x')
    (ht : P.underlying t = some (.struct fs)) (hf : fs[i]? = some f) (hc : tySize P f.type = some c) (hc0 : c ≠ 0) (hv : vcOp (.fa f.offset x') o.dst s K KP) : o.wp P a w (Nx X s.n s.k σ β w K) (Pn X s σ β w KP) := by
  simp only [vcOp] at hv
  have h1 := ev_ok h hx
  have hp : ∀ b off, (Instr.fieldAt t (.pointer (some ⟨b, off, none⟩)) i).run P w = .ok (.pointer (some ⟨b, off + f.offset, none⟩)) w := by
    intro b off
    simp [Instr.fieldAt, run_underlying ht, hf, Instr.sureAddr, fieldPlace, run_size hc, hc0, Addr.add_lit]
  split at hv
  · rename_i n off e1
    rw [e1] at h1
    obtain ⟨b, hb, e⟩ := ra_ptr h1
    exact fin h hd (.ptr n _ b hb) (by simp [execOp, ho, e, hp]) hv
  · rename_i e e1
    rw [e1] at h1
    obtain ⟨b, off, g, e2, hs, hr⟩ := ra_ep h1
    refine fin h hd (.ep _ b (off + f.offset) (fun j => g (f.offset + j)) ?_ ?_) (by simp [execOp, ho, e2, hp]) hv
    · intro j y hy
      rw [List.getElem?_drop] at hy
      have := hs _ _ hy
      rw [← this]; congr 1; omega
    · intro j y hy
      rw [List.getElem?_drop] at hy
      exact hr _ _ hy
  · exact hv.elim

theorem ra_sub {cs : List A} {vs : Array Value} (hn : cs.length = vs.size) (h : ∀ i x, cs[i]? = some x → RA σ β x (vs.getD i undef)) {off c : Nat} (hc : off + c ≤ cs.length) :
    RA σ β (.agg ((cs.drop off).take c)) (.agg (vs.extract off (off + c))) := by
  refine .agg _ _ ?_ ?_
  · simp; omega
  · intro i x hx
    rw [List.getElem?_take] at hx
    split at hx
    · rename_i hi
      rw [List.getElem?_drop] at hx
      have := h _ _ hx
      have e : (vs.extract off (off + c)).getD i undef = vs.getD (off + i) undef := by
        simp only [Array.getD_eq_getD_getElem?, Array.getElem?_extract]
        rw [if_pos (by omega)]
      rw [e]; exact this
    · cases hx

theorem getElem?_of_getD {vs : Array Value} {i : Nat} (h : i < vs.size) : vs[i]? = some (vs.getD i undef) := by
  rw [Array.getD_eq_getD_getElem?, Array.getElem?_eq_getElem h]; rfl

theorem run_part_agg {t : TypeId} {c off : Nat} {vs : Array Value} (ha : tyAgg P t = some true) (hc : tySize P t = some c) : (part t vs off).run P w = .ok (.agg (vs.extract off (off + c))) w := by
  simp [part, run_agg ha, run_size hc]

theorem run_part_one {t : TypeId} {off : Nat} {vs : Array Value} (ha : tyAgg P t = some false) (h : off < vs.size) : (part t vs off).run P w = .ok (vs.getD off undef) w := by
  simp only [part, Sem.run_bind, run_agg ha, Result.andThen_ok, Bool.false_eq_true, if_false]
  rw [getElem?_of_getD h]
  rfl

theorem run_extract {vs : Array Value} {i : Nat} (h : i < vs.size) : (Instr.extract (.tuple vs) i).run P w = .ok (vs.getD i undef) w := by
  simp only [Instr.extract]
  rw [getElem?_of_getD h]
  rfl

theorem lt_of_getElem? {cs : List A} {i : Nat} {x : A} (h : cs[i]? = some x) : i < cs.length := (List.getElem?_eq_some_iff.1 h).1

theorem s_fld (h : Rel X σ β s a w) (hd : ∀ i, o.dst = some i → i < s.n) {t : TypeId} {x : Operand} {x' : Opd} {i c : Nat} {ag : Bool} {fs : Array Field} {f : Field} (ho : o.op = .field t x i) (hx : cOpd x = some x')
    (ht : P.underlying t = some (.struct fs)) (hf : fs[i]? = some f) (hc : tySize P f.type = some c) (ha : tyAgg P f.type = some ag) (hv : vcOp (.fld ag f.offset c x') o.dst s K KP) : o.wp P a w (Nx X s.n s.k σ β w K) (Pn X s σ β w KP) := by
  simp only [vcOp] at hv
  have h1 := ev_ok h hx
  split at hv
  · rename_i cs e1
    rw [e1] at h1
    obtain ⟨vs, e2, hn, hr⟩ := ra_agg h1
    cases ag with
    | true =>
      exact fin h hd (ra_sub hn hr hv.1) (by simp [execOp, ho, e2, Instr.field, run_underlying ht, hf, asAgg, run_part_agg ha hc]) hv.2
    | false =>
      obtain ⟨y, hy, hk⟩ := hv
      have hlt := lt_of_getElem? hy
      exact fin h hd (hr _ _ hy) (by
        simp only [execOp, ho, e2, Instr.field, Sem.run_bind, run_underlying ht, Result.andThen_ok, hf, asAgg, Sem.run_pure, run_part_one ha (hn ▸ hlt)]) hk
  · exact hv.elim

theorem s_ext (h : Rel X σ β s a w) (hd : ∀ i, o.dst = some i → i < s.n) {x : Operand} {x' : Opd} {i : Nat} (ho : o.op = .extract x i) (hx : cOpd x = some x')
    (hv : vcOp (.ext x' i) o.dst s K KP) : o.wp P a w (Nx X s.n s.k σ β w K) (Pn X s σ β w KP) := by
  simp only [vcOp] at hv
  have h1 := ev_ok h hx
  split at hv
  · rename_i cs e1
    rw [e1] at h1
    obtain ⟨vs, e2, hn, hr⟩ := ra_tup h1
    obtain ⟨y, hy, hk⟩ := hv
    have hlt := lt_of_getElem? hy
    exact fin h hd (hr _ _ hy) (by simp only [execOp, ho, e2, Sem.run_bind, run_extract (hn ▸ hlt), Result.andThen_ok, Sem.run_pure]) hk
  · exact hv.elim

end
end Go.Vx

/- Soundness: indices, lengths, slices, conversions, interface values, closures. -/
namespace Go.Vx
set_option linter.unusedVariables false
set_option linter.unusedSimpArgs false
open Go

section
variable {P : Program} {o : Oper} {X : Ctx} {σ : Store} {β : Names} {s : St} {a : Act} {w : World} {K : St → Prop} {KP : D → Prop}

theorem s_ixa (h : Rel X σ β s a w) (hd : ∀ i, o.dst = some i → i < s.n) {t e : TypeId} {n c : Nat} {x i : Operand} {x' i' : Opd} (ho : o.op = .indexAddr t x i) (hx : cOpd x = some x') (hi : cOpd i = some i')
    (ht : P.underlying t = some (.array n e)) (hc : tySize P e = some c) (hv : vcOp (.ixa n c x' i') o.dst s K KP) : o.wp P a w (Nx X s.n s.k σ β w K) (Pn X s σ β w KP) := by
  simp only [vcOp] at hv
  have h1 := ev_ok h hx
  have h2 := ev_ok h hi
  have hp : ∀ b off k (j : Int), 0 ≤ j ∧ j < n → (Instr.indexAt t (.pointer (some ⟨b, off, none⟩)) (.int k j)).run P w = .ok (.pointer (some ⟨b, off + j.toNat * c, none⟩)) w := by
    intro b off k j hj
    simp only [Instr.indexAt, asIntOf, Sem.run_bind, Sem.run_pure, Result.andThen_ok, run_underlying ht, Instr.sureAddr, if_pos hj, run_size hc, Addr.add_lit]
  split at hv
  · rename_i m off k j e1 e2
    rw [e1] at h1; rw [e2] at h2
    obtain ⟨b, hb, e3⟩ := ra_ptr h1
    have e4 := ra_int h2
    exact fin h hd (.ptr m _ b hb) (by simp only [execOp, ho, e3, e4, Sem.run_bind, hp b off k j hv.1, Result.andThen_ok, Sem.run_pure]) hv.2
  · rename_i e k j e1 e2
    rw [e1] at h1; rw [e2] at h2
    obtain ⟨b, off, g, e3, hs, hr⟩ := ra_ep h1
    have e4 := ra_int h2
    refine fin h hd (.ep _ b (off + j.toNat * c) (fun q => g (j.toNat * c + q)) ?_ ?_) (by simp only [execOp, ho, e3, e4, Sem.run_bind, hp b off k j hv.1, Result.andThen_ok, Sem.run_pure]) hv.2
    · intro q y hy
      rw [List.getElem?_drop] at hy
      have := hs _ _ hy
      rw [← this]; congr 1; omega
    · intro q y hy
      rw [List.getElem?_drop] at hy
      exact hr _ _ hy
  · exact hv.elim

theorem s_ixs (h : Rel X σ β s a w) (hd : ∀ i, o.dst = some i → i < s.n) {t e : TypeId} {c : Nat} {x i : Operand} {x' i' : Opd} (ho : o.op = .indexAddr t x i) (hx : cOpd x = some x') (hi : cOpd i = some i')
    (ht : P.underlying t = some (.slice e)) (hc : tySize P e = some c) (hv : vcOp (.ixs c x' i') o.dst s K KP) : o.wp P a w (Nx X s.n s.k σ β w K) (Pn X s σ β w KP) := by
  simp only [vcOp] at hv
  have h1 := ev_ok h hx
  have h2 := ev_ok h hi
  have hp : ∀ b off len cap k (j : Int), 0 ≤ j ∧ j < (len : Nat) → (Instr.indexAt t (.slice (some ⟨b, off, none⟩) len cap) (.int k j)).run P w = .ok (.pointer (some ⟨b, off + j.toNat * c, none⟩)) w := by
    intro b off len cap k j hj
    simp only [Instr.indexAt, asIntOf, Sem.run_bind, Sem.run_pure, Result.andThen_ok, run_underlying ht, if_pos hj, run_size hc, Addr.add_lit]
  split at hv
  · rename_i c' es k j e1 e2
    obtain ⟨hcc, hj, hk⟩ := hv
    rw [e1] at h1; rw [e2] at h2
    have e4 := ra_int h2
    obtain ⟨_, hsl⟩ := ra_sl (reads_sl_c hcc h1)
    rcases hsl with ⟨e5, _⟩ | ⟨b, off, cap, f, e3, hcap, hlen, hs, hr⟩
    · subst e5; simp at hj; omega
    · have hjn : j.toNat < es.length := by omega
      have hget : es[j.toNat]? = some (es.getD j.toNat []) := by
        rw [List.getD_eq_getElem?_getD, List.getElem?_eq_getElem hjn]; rfl
      refine fin h hd (.ep _ b (off + j.toNat * c) (fun q => f j.toNat q) ?_ ?_) (by simp only [execOp, ho, e3, e4, Sem.run_bind, hp b off _ cap k j hj, Result.andThen_ok, Sem.run_pure]) hk
      · intro q y hy; exact hs _ _ hget q y hy
      · intro q y hy; exact hr _ _ hget q y hy
  · rename_i n off len cap k j e1 e2
    rw [e1] at h1; rw [e2] at h2
    have e4 := ra_int h2
    obtain ⟨b, hb, e3⟩ := ra_bsl h1
    exact fin h hd (.ptr n _ b hb) (by simp only [execOp, ho, e3, e4, Sem.run_bind, hp b off _ cap k j hv.1, Result.andThen_ok, Sem.run_pure]) hv.2
  · exact hv.elim

theorem s_ixv (h : Rel X σ β s a w) (hd : ∀ i, o.dst = some i → i < s.n) {t e : TypeId} {n c : Nat} {ag : Bool} {x i : Operand} {x' i' : Opd} (ho : o.op = .index t x i) (hx : cOpd x = some x') (hi : cOpd i = some i')
    (ht : P.underlying t = some (.array n e)) (hc : tySize P e = some c) (ha : tyAgg P e = some ag) (hv : vcOp (.ixv ag n c x' i') o.dst s K KP) : o.wp P a w (Nx X s.n s.k σ β w K) (Pn X s σ β w KP) := by
  simp only [vcOp] at hv
  have h1 := ev_ok h hx
  have h2 := ev_ok h hi
  split at hv
  · rename_i cs k j e1 e2
    rw [e1] at h1; rw [e2] at h2
    have e4 := ra_int h2
    obtain ⟨vs, e3, hn, hr⟩ := ra_agg h1
    obtain ⟨hj, hk⟩ := hv
    cases ag with
    | true =>
      exact fin h hd (ra_sub hn hr hk.1) (by simp only [execOp, ho, e3, e4, Instr.index, asIntOf, Sem.run_bind, Sem.run_pure, Result.andThen_ok, run_underlying ht, if_pos hj, run_size hc, run_part_agg ha hc]) hk.2
    | false =>
      obtain ⟨y, hy, hk⟩ := hk
      have hlt := lt_of_getElem? hy
      exact fin h hd (hr _ _ hy) (by simp only [execOp, ho, e3, e4, Instr.index, asIntOf, Sem.run_bind, Sem.run_pure, Result.andThen_ok, run_underlying ht, if_pos hj, run_size hc, run_part_one ha (hn ▸ hlt)]) hk
  · exact hv.elim

theorem bytes_get (b : List UInt8) (j : Nat) (h : j < b.length) : (⟨b.toArray⟩ : ByteArray)[j]? = some (b.getD j 0) := by
  have e : (⟨b.toArray⟩ : ByteArray).size = b.length := by simp [ByteArray.size]
  rw [getElem?_pos (⟨b.toArray⟩ : ByteArray) j (by rw [e]; exact h)]
  congr 1
  show b.toArray[j] = _
  rw [List.getD_eq_getElem?_getD, List.getElem?_eq_getElem h]
  simp

theorem s_ixc (h : Rel X σ β s a w) (hd : ∀ i, o.dst = some i → i < s.n) {t : TypeId} {x i : Operand} {x' i' : Opd} (ho : o.op = .index t x i) (hx : cOpd x = some x') (hi : cOpd i = some i')
    (ht : P.underlying t = some .string) (hv : vcOp (.ixc x' i') o.dst s K KP) : o.wp P a w (Nx X s.n s.k σ β w K) (Pn X s σ β w KP) := by
  simp only [vcOp] at hv
  have h1 := ev_ok h hx
  have h2 := ev_ok h hi
  split at hv
  · rename_i b k j e1 e2
    rw [e1] at h1; rw [e2] at h2
    have e4 := ra_int h2
    have e3 := (ra_str h1).1
    obtain ⟨hj, hk⟩ := hv
    have hjn : j.toNat < b.length := by omega
    refine fin h hd (.d _ _ (.int _ _)) ?_ hk
    simp only [execOp, ho, e3, e4, Instr.index, asIntOf, Sem.run_bind, Sem.run_pure, Result.andThen_ok, run_underlying ht, if_pos hj.1, bytes_get b _ hjn]
  · exact hv.elim

theorem resolve_builtin {b : Builtin} {args : Array Operand} {ats : Array TypeId} {ρ : Operand → Value} {ty : TypeId} :
    (do let d ← resolve ρ { callee := .builtin b, args, argTypes := ats } ty; invoke d.target d.args : Sem Next) = builtin b ats ty (args.map fun | .const _ => true | _ => false) (args.map ρ) := rfl

theorem arg0 {args : Array Operand} {x : Operand} (h : args[0]? = some x) (ρ : Operand → Value) : (args.map ρ)[0]? = some (ρ x) := by simp [h]
theorem arg1 {args : Array Operand} {x : Operand} (h : args[1]? = some x) (ρ : Operand → Value) : (args.map ρ)[1]? = some (ρ x) := by simp [h]

theorem s_len (h : Rel X σ β s a w) (hd : ∀ i, o.dst = some i → i < s.n) {t e : TypeId} {ats : Array TypeId} {args : Array Operand} {x : Operand} {x' : Opd} (ho : o.op = .call { callee := .builtin .len, args, argTypes := ats })
    (h0 : ats[0]? = some t) (h1a : args[0]? = some x) (hx : cOpd x = some x') (he : P.underlying t = some (.slice e))
    (hv : vcOp (.len x') o.dst s K KP) : o.wp P a w (Nx X s.n s.k σ β w K) (Pn X s σ β w KP) := by
  simp only [vcOp] at hv
  have h1 := ev_ok h hx
  have ha0 := arg0 h1a a.eval
  split at hv
  · rename_i c es e1
    rw [e1] at h1
    obtain ⟨hl, hsl⟩ := ra_sl h1
    rcases hsl with ⟨e5, base, e6⟩ | ⟨b, off, cap, f, e3, _⟩
    · subst e5
      refine fin h hd (.d _ _ (.int _ _)) ?_ (hv hl)
      simp only [execOp, ho, resolve_builtin, builtin, Builtin.len_, h0, ha0, e6, Sem.run_bind, run_underlying he, Result.andThen_ok, Sem.run_pure, goInt]
      rfl
    · refine fin h hd (.d _ _ (.int _ _)) ?_ (hv hl)
      simp only [execOp, ho, resolve_builtin, builtin, Builtin.len_, h0, ha0, e3, Sem.run_bind, run_underlying he, Result.andThen_ok, Sem.run_pure, goInt]
  · rename_i n off len cap e1
    rw [e1] at h1
    obtain ⟨b, hb, e3⟩ := ra_bsl h1
    refine fin h hd (.d _ _ (.int _ _)) ?_ hv
    simp only [execOp, ho, resolve_builtin, builtin, Builtin.len_, h0, ha0, e3, Sem.run_bind, run_underlying he, Result.andThen_ok, Sem.run_pure, goInt]
  · exact hv.elim

theorem s_lenS (h : Rel X σ β s a w) (hd : ∀ i, o.dst = some i → i < s.n) {t : TypeId} {ats : Array TypeId} {args : Array Operand} {x : Operand} {x' : Opd} (ho : o.op = .call { callee := .builtin .len, args, argTypes := ats })
    (h0 : ats[0]? = some t) (h1a : args[0]? = some x) (hx : cOpd x = some x') (hs : P.underlying t = some .string)
    (hv : vcOp (.lenS x') o.dst s K KP) : o.wp P a w (Nx X s.n s.k σ β w K) (Pn X s σ β w KP) := by
  simp only [vcOp] at hv
  have h1 := ev_ok h hx
  have ha0 := arg0 h1a a.eval
  split at hv
  · rename_i b e1
    rw [e1] at h1
    obtain ⟨e3, hl⟩ := ra_str h1
    refine fin h hd (.d _ _ (.int _ _)) ?_ (hv hl)
    simp only [execOp, ho, resolve_builtin, builtin, Builtin.len_, h0, ha0, e3, Sem.run_bind, run_underlying hs, Result.andThen_ok, Sem.run_pure, goInt]
    simp [ByteArray.size]
  · exact hv.elim

theorem nil_run {neg : Bool} {t : TypeId} {x y : Operand} {t' : TypeId} {b : Bool} {v u : Value} (ho : o.op = .binOp (if neg then .neq else .eql) t x y t') (hx : a.eval x = v) (hy : a.eval y = u) (hc : ∃ q, y = .const q)
    (hk : ∀ D, (Op.equalIn (D + 1) t v u).run P w = .ok b w)
    (hv : (∃ p, v = .pointer p) ∨ (∃ p q r, v = .slice p q r) ∨ v = .nilIface ∨ (∃ p q, v = .iface p q) ∨ v = .nilFunc ∨ ∃ p q r, v = .func p q r) :
    (execOp a.eval o).run P w = .ok (.value (.bool (bif neg then !b else b))) w := by
  obtain ⟨q0, rfl⟩ := hc
  have he : (Op.equal t v u).run P w = .ok b w := hk 9999
  have hg : (eqGuard (if neg then .neq else .eql) t x (.const q0) v u).run P w = .ok () w := by
    rcases hv with ⟨p, rfl⟩ | ⟨p, q, r, rfl⟩ | rfl | ⟨p, q, rfl⟩ | rfl | ⟨p, q, r, rfl⟩ <;> cases neg <;> cases u <;> simp [eqGuard]
  have hb : (binOp (if neg then .neq else .eql) t v u).run P w = .ok (.bool (bif neg then !b else b)) w := by
    rcases hv with ⟨p, rfl⟩ | ⟨p, q, r, rfl⟩ | rfl | ⟨p, q, rfl⟩ | rfl | ⟨p, q, r, rfl⟩ <;> cases neg <;> simp [binOp, he]
  rw [← hx, ← hy] at hg hb
  simp only [execOp, ho, Sem.run_bind, hg, Result.andThen_ok, hb, Sem.run_pure]

theorem s_isnil (h : Rel X σ β s a w) (hd : ∀ i, o.dst = some i → i < s.n) {neg : Bool} {kd : Nat} {t t' : TypeId} {x y : Operand} {x' : Opd} {td : TypeDesc} (ho : o.op = .binOp (if neg then .neq else .eql) t x y t') (hx : cOpd x = some x')
    (ht : P.underlying t = some td) (hn : nilKind td y = some kd)
    (hv : vcOp (.isnil neg kd x') o.dst s K KP) : o.wp P a w (Nx X s.n s.k σ β w K) (Pn X s σ β w KP) := by
  have h1 := ev_ok h hx
  have pos : ∀ {v u : Value}, a.eval x = v → a.eval y = u → (∃ q, y = .const q) → (∀ D, (Op.equalIn (D + 1) t v u).run P w = .ok true w) →
      ((∃ p, v = .pointer p) ∨ (∃ p q r, v = .slice p q r) ∨ v = .nilIface ∨ (∃ p q, v = .iface p q) ∨ v = .nilFunc ∨ ∃ p q r, v = .func p q r) → K (s.setd o.dst (.d (.bool !neg))) → o.wp P a w (Nx X s.n s.k σ β w K) (Pn X s σ β w KP) := by
    intro v u q1 q2 q3 q4 q5 hk
    have := nil_run (P := P) ho q1 q2 q3 q4 q5
    refine fin h hd (.d _ _ (.bool _)) this ?_
    cases neg <;> exact hk
  have neg' : ∀ {v u : Value}, a.eval x = v → a.eval y = u → (∃ q, y = .const q) → (∀ D, (Op.equalIn (D + 1) t v u).run P w = .ok false w) →
      ((∃ p, v = .pointer p) ∨ (∃ p q r, v = .slice p q r) ∨ v = .nilIface ∨ (∃ p q, v = .iface p q) ∨ v = .nilFunc ∨ ∃ p q r, v = .func p q r) → K (s.setd o.dst (.d (.bool neg))) → o.wp P a w (Nx X s.n s.k σ β w K) (Pn X s σ β w KP) := by
    intro v u q1 q2 q3 q4 q5 hk
    have := nil_run (P := P) ho q1 q2 q3 q4 q5
    refine fin h hd (.d _ _ (.bool _)) this ?_
    cases neg <;> exact hk
  unfold nilKind at hn
  split at hn
  · cases hn
    simp only [vcOp] at hv
    split at hv <;> (try contradiction)
    · rename_i n off _ e1
      rw [e1] at h1
      obtain ⟨b, hb, e⟩ := ra_ptr h1
      exact neg' e rfl ⟨_, rfl⟩ (fun D => by simp [Op.equalIn, run_underlying ht, Act.eval]) (.inl ⟨_, rfl⟩) hv
    · rename_i e _ e1
      rw [e1] at h1
      obtain ⟨b, off, f, e2, _, _⟩ := ra_ep h1
      exact neg' e2 rfl ⟨_, rfl⟩ (fun D => by simp [Op.equalIn, run_underlying ht, Act.eval]) (.inl ⟨_, rfl⟩) hv
    · rename_i _ e1
      rw [e1] at h1
      have e : a.eval x = .pointer none := by generalize a.eval x = q at h1; cases h1 with | d _ _ h1 => cases h1; rfl
      exact pos e rfl ⟨_, rfl⟩ (fun D => by simp [Op.equalIn, run_underlying ht, Act.eval]) (.inl ⟨_, rfl⟩) hv
  · cases hn
    simp only [vcOp] at hv
    split at hv <;> (try contradiction)
    rename_i c es _ e1
    rw [e1] at h1
    obtain ⟨_, hsl⟩ := ra_sl h1
    rcases hsl with ⟨e5, base, e6⟩ | ⟨b, off, cap, f, e3, _⟩
    · cases base with
      | some ad => exact neg' e6 rfl ⟨_, rfl⟩ (fun D => by simp [Op.equalIn, run_underlying ht, Act.eval]) (.inr (.inl ⟨_, _, _, rfl⟩)) hv.2
      | none => exact pos e6 rfl ⟨_, rfl⟩ (fun D => by simp [Op.equalIn, run_underlying ht, Act.eval]) (.inr (.inl ⟨_, _, _, rfl⟩)) (hv.1 e5)
    · exact neg' e3 rfl ⟨_, rfl⟩ (fun D => by simp [Op.equalIn, run_underlying ht, Act.eval]) (.inr (.inl ⟨_, _, _, rfl⟩)) hv.2
  · cases hn
    simp only [vcOp] at hv
    split at hv <;> (try contradiction)
    · rename_i _ e1
      rw [e1] at h1
      have e : a.eval x = .nilIface := by generalize a.eval x = q at h1; cases h1 with | d _ _ h1 => cases h1; rfl
      exact pos e rfl ⟨_, rfl⟩ (fun D => by simp [Op.equalIn, run_underlying ht, Act.eval]) (.inr (.inr (.inl rfl))) hv
    · rename_i t0 ag cs _ e1
      rw [e1] at h1
      obtain ⟨q, e⟩ : ∃ q, a.eval x = .iface t0 q := by generalize a.eval x = q at h1; cases h1 with | d _ _ h1 => cases h1 <;> exact ⟨_, rfl⟩
      exact neg' e rfl ⟨_, rfl⟩ (fun D => by simp [Op.equalIn, run_underlying ht, Act.eval]) (.inr (.inr (.inr (.inl ⟨_, _, rfl⟩)))) hv
  · cases hn
    simp only [vcOp] at hv
    split at hv <;> (try contradiction)
    · rename_i f cs _ e1
      rw [e1] at h1
      obtain ⟨vs, e⟩ : ∃ vs, a.eval x = .func (.func f) #[] vs := by generalize a.eval x = q at h1; cases h1; exact ⟨_, rfl⟩
      exact neg' e rfl ⟨_, rfl⟩ (fun D => by simp [Op.equalIn, run_underlying ht, Act.eval]) (.inr (.inr (.inr (.inr (.inr ⟨_, _, _, rfl⟩))))) hv
    · rename_i _ e1
      rw [e1] at h1
      have e : a.eval x = .nilFunc := by generalize a.eval x = q at h1; cases h1 with | d _ _ h1 => cases h1; rfl
      exact pos e rfl ⟨_, rfl⟩ (fun D => by simp [Op.equalIn, run_underlying ht, Act.eval]) (.inr (.inr (.inr (.inr (.inl rfl))))) hv
  · cases hn

theorem s_lenA (h : Rel X σ β s a w) (hd : ∀ i, o.dst = some i → i < s.n) {t e : TypeId} {n : Nat} {ats : Array TypeId} {args : Array Operand} {x : Operand} (ho : o.op = .call { callee := .builtin .len, args, argTypes := ats })
    (h0 : ats[0]? = some t) (h1a : args[0]? = some x) (ht : P.underlying t = some (.array n e) ∨ ∃ u, P.underlying t = some (.pointer u) ∧ P.underlying u = some (.array n e))
    (hv : vcOp (.lenA n) o.dst s K KP) : o.wp P a w (Nx X s.n s.k σ β w K) (Pn X s σ β w KP) := by
  simp only [vcOp] at hv
  have ha0 := arg0 h1a a.eval
  refine fin h hd (.d _ _ (.int _ _)) ?_ hv
  rcases ht with ht | ⟨u, hu, ht⟩
  · simp only [execOp, ho, resolve_builtin, builtin, Builtin.len_, h0, ha0, Sem.run_bind, run_underlying ht, Result.andThen_ok, Sem.run_pure, goInt]
  · simp only [execOp, ho, resolve_builtin, builtin, Builtin.len_, h0, ha0, Sem.run_bind, run_underlying hu, run_underlying ht, Result.andThen_ok, Sem.run_pure, goInt]

theorem toDs_spec : ∀ (cs : List A) (ds : List D), toDs cs = some ds → cs = ds.map A.d := by
  intro cs
  induction cs with
  | nil => intro ds e; cases e; rfl
  | cons y l ih =>
    intro ds e
    simp only [toDs] at e
    split at e
    · rename_i z m e1 e2
      cases e
      rw [ih m e2]
      cases y <;> simp [toD] at e1
      rw [e1]; rfl
    · cases e

theorem s_mkif (h : Rel X σ β s a w) (hd : ∀ i, o.dst = some i → i < s.n) {t : TypeId} {x : Operand} {x' : Opd} {td : TypeDesc} (ho : o.op = .makeInterface t x) (hx : cOpd x = some x')
    (ht : P.underlying t = some td) (hni : ∀ m, td ≠ .interface m) (hv : vcOp (.mkif t x') o.dst s K KP) : o.wp P a w (Nx X s.n s.k σ β w K) (Pn X s σ β w KP) := by
  have hrun : (execOp a.eval o).run P w = .ok (.value (.iface t (a.eval x))) w := by
    cases td with
    | interface m => exact (hni m rfl).elim
    | _ => simp only [execOp, ho, Instr.makeInterface, Sem.run_bind, run_underlying ht, Result.andThen_ok, Sem.run_pure]
  simp only [vcOp] at hv
  have h1 := ev_ok h hx
  split at hv
  · rename_i v e1
    rw [e1] at h1
    cases h1 with | d _ _ h1 => exact fin h hd (.d _ _ (.iface1 t v _ h1)) hrun hv
  · rename_i cs e1
    rw [e1] at h1
    obtain ⟨vs, e2, hn, hr⟩ := ra_agg h1
    split at hv
    · rename_i ds hds
      refine fin h hd (.d _ _ ?_) hrun hv
      rw [e2]
      have hcs := toDs_spec cs ds hds
      subst hcs
      simp only [List.length_map] at hn
      refine .ifaceN t ds vs (by omega) ?_
      intro i x hx
      have := hr i (.d x) (by simp [hx])
      cases this with | d _ _ h => exact h
    · exact hv.elim
  · exact hv.elim

theorem s_tas (h : Rel X σ β s a w) (hd : ∀ i, o.dst = some i → i < s.n) {t u : TypeId} {ok : Bool} {x : Operand} {x' : Opd} {td : TypeDesc} (ho : o.op = .typeAssert x u t ok) (hx : cOpd x = some x')
    (ht : P.underlying t = some td) (hni : ∀ m, td ≠ .interface m) (hv : vcOp (.tas t ok x') o.dst s K KP) : o.wp P a w (Nx X s.n s.k σ β w K) (Pn X s σ β w KP) := by
  have hrun : ∀ v, a.eval x = .iface t v → (execOp a.eval o).run P w = .ok (.value (if ok = true then .tuple #[v, .bool true] else v)) w := by
    intro v e
    cases td with
    | interface m => exact (hni m rfl).elim
    | _ => simp only [execOp, ho, e, Instr.typeAssert, Sem.run_bind, run_underlying ht, Result.andThen_ok, Sem.run_pure, if_true]
  have key : ∀ (v : Value) (y : A), a.eval x = .iface t v → RA σ β y v → K (s.setd o.dst (bif ok then .tup [y, .d (.bool true)] else y)) → o.wp P a w (Nx X s.n s.k σ β w K) (Pn X s σ β w KP) := by
    intro v y e hr hk
    cases ok with
    | false => exact fin h hd hr (hrun v e) hk
    | true =>
      refine fin h hd (x := .tup [y, .d (.bool true)]) (.tup _ _ rfl ?_) (hrun v e) hk
      intro i z hz
      match i, hz with
      | 0, hz => cases hz; exact hr
      | 1, hz => cases hz; exact .d _ _ (.bool true)
      | i + 2, hz => simp at hz
  simp only [vcOp] at hv
  have h1 := ev_ok h hx
  split at hv
  · rename_i t' ag cs e1
    rw [e1] at h1
    obtain ⟨rfl, hv⟩ := hv
    generalize hq : a.eval x = q at h1
    cases h1 with | d _ _ h1 =>
    cases h1 with
    | iface1 _ y v hy => exact key v (.d y) hq (.d _ _ hy) hv
    | ifaceN _ _ vs hn hr =>
      exact key (.agg vs) (.agg (cs.map .d)) hq (.agg _ _ (by simpa using hn) (fun i y hy => by
        rw [List.getElem?_map] at hy
        obtain ⟨z, hz, rfl⟩ := Option.map_eq_some_iff.1 hy
        exact .d _ _ (hr i z hz))) hv
  · exact hv.elim

theorem s_panic (h : Rel X σ β s a w) {x : Operand} {x' : Opd} (ho : o.op = .panic x) (hx : cOpd x = some x')
    (hv : vcOp (.panic x') o.dst s K KP) : o.wp P a w (Nx X s.n s.k σ β w K) (Pn X s σ β w KP) := by
  simp only [vcOp] at hv
  have h1 := ev_ok h hx
  split at hv
  · rename_i t ag cs e1
    rw [e1] at h1
    cases h1' : a.eval x with
    | iface t' v =>
      rw [h1'] at h1
      cases h1 with | d _ _ h1 =>
      unfold Oper.wp
      have : (execOp a.eval o).run P w = .halt (.panic (.iface t' v)) w := by
        simp [execOp, ho, h1', Instr.panic]
      rw [this, Oper.upon_panic]
      exact ⟨_, _, rfl, h1, hv, h, Step.refl _ _ _ _ _⟩
    | _ => rw [h1'] at h1; cases h1 with | d _ _ h1 => cases h1
  · exact hv.elim

theorem s_clo (h : Rel X σ β s a w) (hd : ∀ i, o.dst = some i → i < s.n) {f : FuncId} {first caps : Array Operand} {caps' : List Opd} (ho : o.op = .makeFunc (.func f) first caps) (hf : first.size = 0)
    (hx : caps.toList.mapM cOpd = some caps') (hv : vcOp (.clo f caps') o.dst s K KP) : o.wp P a w (Nx X s.n s.k σ β w K) (Pn X s σ β w KP) := by
  simp only [vcOp] at hv
  have hf' : first = #[] := Array.eq_empty_of_size_eq_zero hf
  have key : ∀ (l : List Operand) (l' : List Opd), l.mapM cOpd = some l' → l'.length = l.length ∧ ∀ i x, (l'.map s.ev)[i]? = some x → RA σ β x ((l.map a.eval).getD i undef) := by
    intro l
    induction l with
    | nil => intro l' e; cases e; simp
    | cons y r ih =>
      intro l' e
      rw [List.mapM_cons] at e
      cases e1 : cOpd y with
      | none => rw [e1] at e; cases e
      | some y' =>
        cases e2 : r.mapM cOpd with
        | none => rw [e1, e2] at e; cases e
        | some r' =>
          rw [e1, e2] at e
          cases e
          obtain ⟨i1, i2⟩ := ih r' e2
          refine ⟨by simp [i1], ?_⟩
          intro i x hx
          cases i with
          | zero =>
            simp only [List.map_cons, List.getElem?_cons_zero, Option.some.injEq] at hx
            subst hx
            exact ev_ok h e1
          | succ i => exact i2 i x (by simpa using hx)
  obtain ⟨k1, k2⟩ := key _ _ hx
  refine fin (v := .func (.func f) #[] (caps.map a.eval)) h hd (.clo f _ _ (by simp [k1]) ?_) (by simp [execOp, ho, hf', Instr.makeFunc]) hv
  intro i x hxx
  have := k2 i x hxx
  have e : (caps.map a.eval).getD i undef = (caps.toList.map a.eval).getD i undef := by
    rw [Array.getD_eq_getD_getElem?, List.getD_eq_getElem?_getD]
    simp
  rw [e]; exact this

end
end Go.Vx

/- Soundness: memory: loads, stores, new boxes, values that are built. -/
namespace Go.Vx
set_option linter.unusedVariables false
set_option linter.unusedSimpArgs false
open Go

section
variable {P : Program} {o : Oper} {X : Ctx} {σ : Store} {β : Names} {s : St} {a : Act} {w : World} {K : St → Prop} {KP : D → Prop}

theorem run_loadAt_one {t : TypeId} {b off : Nat} {v : Value} (ha : tyAgg P t = some false) (hv : w.cell? ⟨b, off, none⟩ = some v) :
    (Instr.loadAt t (.pointer (some ⟨b, off, none⟩))).run P w = .ok v w := by
  simp only [Instr.loadAt, Instr.sureAddr, loadVar, Sem.run_bind, Sem.run_pure, Result.andThen_ok, run_agg ha, Bool.false_eq_true, if_false, run_load, hv]

theorem run_loadAt_agg {t : TypeId} {b off c : Nat} {vs : List Value} (ha : tyAgg P t = some true) (hc : tySize P t = some c) (hl : vs.length = c)
    (hv : ∀ j v, vs[j]? = some v → w.cell? ⟨b, off + j, none⟩ = some v) : (Instr.loadAt t (.pointer (some ⟨b, off, none⟩))).run P w = .ok (.agg vs.toArray) w := by
  have := run_loadCells_list (P := P) w ⟨b, off, none⟩ vs (fun j v hj => by rw [Addr.add_lit]; exact hv j v hj)
  rw [hl] at this
  simp only [Instr.loadAt, Instr.sureAddr, loadVar, Sem.run_bind, Sem.run_pure, Result.andThen_ok, run_agg ha, if_true, run_size hc, this]

theorem mem_ownOfB {n p c : Nat} {ow : List (Loc × Nat)} (h : ownOfB n p ow = some c) : (Loc.b n p, c) ∈ ow := by
  induction ow with
  | nil => cases h
  | cons q r ih =>
    obtain ⟨l, e⟩ := q
    cases l with
    | t i => exact .tail _ (ih h)
    | b m u =>
      simp only [ownOfB] at h
      cases hh : (n == m) && (p == u) with
      | true =>
        rw [hh] at h
        simp only [cond_true, Option.some.injEq] at h
        simp only [Bool.and_eq_true, beq_iff_eq] at hh
        rw [hh.1, hh.2, h]
        exact .head _
      | false =>
        rw [hh] at h
        exact .tail _ (ih h)

theorem mem_dropOt_of {d : Nat} {l : Loc} {c : Nat} {ow : List (Loc × Nat)} (h : (l, c) ∈ ow) (hne : l ≠ .t d) : (l, c) ∈ dropOt d ow := by
  induction ow with
  | nil => exact h
  | cons p r ih =>
    obtain ⟨q, ec⟩ := p
    rcases List.mem_cons.1 h with e1 | h'
    · cases e1
      cases l with
      | t i =>
        have : (i == d) = false := by simpa using hne
        simp [dropOt, this]
      | b n o => simp [dropOt]
    · cases q with
      | t j =>
        cases hj : j == d with
        | true => simp only [dropOt, hj, cond_true]; exact ih h'
        | false => simp only [dropOt, hj, cond_false]; exact .tail _ (ih h')
      | b n o => simp only [dropOt]; exact .tail _ (ih h')

theorem s_load (h : Rel X σ β s a w) (hd : ∀ i, o.dst = some i → i < s.n) {t : TypeId} {c : Nat} {ag tr : Bool} {x : Operand} {x' : Opd} (ho : o.op = .load t x) (hx : cOpd x = some x')
    (ha : tyAgg P t = some ag) (hc : tySize P t = some c) (hv : vcOp (.load ag c x' tr) o.dst s K KP) : o.wp P a w (Nx X s.n s.k σ β w K) (Pn X s σ β w KP) := by
  simp only [vcOp] at hv
  have h1 := ev_ok h hx
  split at hv
  · rename_i n off e1
    rw [e1] at h1
    obtain ⟨b, hb, e⟩ := ra_ptr h1
    split at hv
    · rename_i cs hcs
      obtain ⟨b', arr, T, fz, hb', hh, hsz, hr, hxx, hσ, hf⟩ := h.box n cs hcs
      rw [hb] at hb'; cases hb'
      cases ag with
      | true =>
        simp only at hv
        obtain ⟨hle, hk⟩ := hv
        have hex : ((arr.toList.drop off).take c).length = c := by simp; omega
        have hrun := run_loadAt_agg (P := P) (w := w) (b := b) (off := off) ha hc hex (fun j v hj => by
          rw [cell_of_block hh]
          rw [List.getElem?_take] at hj
          split at hj
          · rw [List.getElem?_drop] at hj; simpa using hj
          · cases hj)
        refine fin h hd (v := .agg ((arr.toList.drop off).take c).toArray) ?_ (by simp only [execOp, ho, e, Sem.run_bind, hrun, Result.andThen_ok, Sem.run_pure]) hk
        refine .agg _ _ (by simp; omega) ?_
        intro i x hx
        rw [List.getElem?_take] at hx
        split at hx
        · rename_i hi
          rw [List.getElem?_drop] at hx
          have := hr _ _ hx
          have e : (((arr.toList.drop off).take c).toArray).getD i undef = arr.getD (off + i) undef := by
            rw [Array.getD_eq_getD_getElem?, Array.getD_eq_getD_getElem?]
            simp only [List.getElem?_toArray, List.getElem?_take, if_pos hi, List.getElem?_drop, Array.getElem?_toList]
          rw [e]; exact this
        · cases hx
      | false =>
        simp only at hv
        obtain ⟨y, hy, hk⟩ := hv
        have hlt := lt_of_getElem? hy
        have hcell : w.cell? ⟨b, off, none⟩ = some (arr.getD off undef) := by rw [cell_of_block hh]; exact getElem?_of_getD (by omega)
        have hrun : (execOp a.eval o).run P w = .ok (.value (arr.getD off undef)) w := by
          simp only [execOp, ho, e, Sem.run_bind, run_loadAt_one (P := P) ha hcell, Result.andThen_ok, Sem.run_pure]
        split at hk
        · rename_i d oc hdd hoc
          unfold Oper.wp
          rw [hrun, Oper.upon_value]
          refine ⟨_, σ, β, hk, rfl, rfl, ?_, Step.refl _ _ _ _ _⟩
          have hd1 := hd d hdd
          have hd' : d < a.tmps.size := h.size ▸ hd1
          rw [hdd]
          have h2 := h.put hd1 (hr _ _ hy)
          have hm := mem_dropOt_of (d := d) (mem_ownOfB hoc) (by simp)
          refine h2.moveOwn (l := .b n off) (l' := .t d) (v := arr.getD off undef) hm ?_ ?_ (ow := dropOc n off (dropOt d s.own)) (fun p hp => ?_)
          · simp only [locVal, hb, Option.bind_some, hcell]
          · simp only [locVal, Act.put]
            rw [getD_set _ _ _ _ hd', if_pos rfl]
          · exact mem_dropOc (l := p.1) (c := p.2) hp
        · exact fin h hd (hr _ _ hy) hrun hk
    · exact hv.elim
  · rename_i e e1
    rw [e1] at h1
    obtain ⟨b, off, f, e2, hs, hr⟩ := ra_ep h1
    cases ag with
    | true =>
      simp only at hv
      obtain ⟨hle, hk⟩ := hv
      have hrun := run_loadAt_agg (P := P) (w := w) (b := b) (off := off) (vs := (List.range c).map f) ha hc (by simp) (fun j v hj => by
        rw [List.getElem?_map] at hj
        by_cases hjc : j < c
        · rw [List.getElem?_range hjc] at hj
          simp only [Option.map_some, Option.some.injEq] at hj
          subst hj
          exact h.st _ _ _ (hs j _ (List.getElem?_eq_getElem (by omega)))
        · rw [List.getElem?_eq_none (by simpa using hjc)] at hj; cases hj)
      refine fin h hd (v := .agg ((List.range c).map f).toArray) ?_ (by simp only [execOp, ho, e2, Sem.run_bind, hrun, Result.andThen_ok, Sem.run_pure]) hk
      refine .agg _ _ (by simp; omega) ?_
      intro i x hx
      rw [List.getElem?_map, List.getElem?_take] at hx
      split at hx
      · rename_i hi
        cases hy : e[i]? with
        | none => rw [hy] at hx; cases hx
        | some y =>
          rw [hy] at hx
          simp only [Option.map_some, Option.some.injEq] at hx
          subst hx
          have e : (((List.range c).map f).toArray).getD i undef = f i := by
            rw [Array.getD_eq_getD_getElem?]
            simp [hi]
          rw [e]
          exact .d _ _ (hr i y hy)
      · cases hx
    | false =>
      simp only at hv
      obtain ⟨y, hy, hk⟩ := hv
      have hcell : w.cell? ⟨b, off, none⟩ = some (f 0) := by simpa using h.st _ _ _ (hs 0 y hy)
      exact fin h hd (.d _ _ (hr 0 y hy)) (by simp only [execOp, ho, e2, Sem.run_bind, run_loadAt_one (P := P) ha hcell, Result.andThen_ok, Sem.run_pure]) hk
  · exact hv.elim

/-- The cells of a value. -/
theorem cells_of_ra {x : A} {v : Value} {cs : List A} (h : RA σ β x v) (hc : cellsOfA x = some cs) : v.cells.size = cs.length ∧ ∀ i y, cs[i]? = some y → RA σ β y (v.cells.getD i undef) := by
  cases x with
  | any => simp [cellsOfA] at hc
  | tup vs => simp [cellsOfA] at hc
  | agg l =>
    simp only [cellsOfA, Option.some.injEq] at hc
    subst hc
    obtain ⟨vs, e, hn, hr⟩ := ra_agg h
    subst e
    exact ⟨hn.symm, hr⟩
  | _ =>
    simp only [cellsOfA, Option.some.injEq] at hc
    subst hc
    have hcell : v.cells = #[v] := by
      cases v with
      | agg vs => cases h; try (rename_i h; cases h)
      | _ => rfl
    rw [hcell]
    refine ⟨rfl, ?_⟩
    intro i y hy
    cases i with
    | zero => simp only [List.getElem?_cons_zero, Option.some.injEq] at hy; subst hy; exact h
    | succ i => simp at hy

theorem oneCell_of_ra {x : A} {v : Value} (h : RA σ β x v) (hc : isCell x = true) : v.oneCell' = true := by
  cases h with
  | any => simp [isCell] at hc
  | d x v h => cases h <;> rfl
  | ptr => rfl
  | agg => simp [isCell] at hc
  | clo => rfl
  | tup => simp [isCell] at hc
  | bsl => rfl
  | ep => rfl
  | nil => rfl
  | ful _ _ _ h _ => cases h <;> rfl

/-- A new box in a new block; a value that may point to it. -/
theorem Rel.newBoxA (h : Rel X σ β s a w) {d m : Nat} {cs : List A} {arr : Array Value} {T : TypeId} {y : A} {u : Value} (hd : d < s.n) (hn : lookB m s.bx = none) (hsz : arr.size = cs.length)
    (hr : ∀ j x, cs[j]? = some x → RA σ β x (arr.getD j undef)) (hy : RA σ (updN β m w.heap.size) y u) :
    Rel X σ (updN β m w.heap.size) { s with t := (d, y) :: s.t, bx := (m, cs) :: s.bx, own := dropOt d s.own } (a.put (some d) u) (w.alloc (.cells arr T)) := by
  have hβ := h.noName hn
  have h1 : Rel X σ β s a (w.alloc (.cells arr T)) := by
    refine h.move (fun _ => False) (fun b _ hb => .inl (heap_push_lt hb)) (by simp) (Store.le_refl _) (fun b o v hv => ?_) (fun _ _ _ _ => rfl) (fun _ hd => hd.elim) (fun _ _ _ _ _ _ _ hd => hd.elim)
    have := h.st b o v hv
    rw [cell_of_heap (heap_push_lt (lt_of_cell this))]
    exact this
  have hfresh : ∀ m, β m ≠ some w.heap.size := fun m hm => Nat.lt_irrefl _ (h.lt hm)
  have h2 := h1.addBox (n := m) (b := w.heap.size) (cs := cs) (arr := arr) (T := T) (fz := (0, 0)) hn hfresh heap_push_eq hsz
    (fun j x hx => (hr j x hx).mono (Store.le_refl _) (updN_le hβ)) (fun hX => Nat.lt_irrefl _ (h.xs _ hX))
    (fun o => by
      cases hσ : σ w.heap.size o with
      | none => rfl
      | some v => exact (Nat.lt_irrefl _ (lt_of_cell (h.st _ _ _ hσ))).elim)
    (.inl rfl)
    (fun l c v hl hv hb => by
      have : locVal β a w l = some v := by
        cases l with
        | t i => exact hv
        | b n off =>
          simp only [locVal] at hv ⊢
          cases hbn : β n with
          | none => rw [hbn] at hv; cases hv
          | some bn =>
            rw [hbn] at hv
            simp only [Option.bind_some] at hv ⊢
            rw [← hv]
            exact (cell_of_heap (heap_push_lt (h.lt hbn)) off).symm
      exact Nat.lt_irrefl _ (h.ownLt hl this hb).1)
  exact h2.put hd hy

/-- A new box in a new block. -/
theorem Rel.newBox (h : Rel X σ β s a w) {d m : Nat} {cs : List A} {arr : Array Value} {T : TypeId} (hd : d < s.n) (hn : lookB m s.bx = none) (hsz : arr.size = cs.length)
    (hr : ∀ j x, cs[j]? = some x → RA σ β x (arr.getD j undef)) :
    Rel X σ (updN β m w.heap.size) { s with t := (d, .ptr m 0) :: s.t, bx := (m, cs) :: s.bx, own := dropOt d s.own } (a.put (some d) (.pointer (some ⟨w.heap.size, 0, none⟩))) (w.alloc (.cells arr T)) :=
  h.newBoxA hd hn hsz hr (.ptr m 0 w.heap.size (by simp [updN]))

theorem Step.newBlock (h : Rel X σ β s a w) {d k : Nat} {ob : Obj} (hk : k ≤ d) : Step X k σ β w σ (updN β d w.heap.size) (w.alloc ob) :=
  ⟨Store.le_refl _, fun b hb => ⟨heap_push_lt (h.xs b hb), fun _ => rfl⟩, by simp, rfl, rfl, rfl, fun n hn => by simp only [updN]; rw [if_neg (by omega)]⟩

theorem zeroFits_ra {x : D} {v : Value} (h : zeroFits x v = true) : Reads σ x v ∧ ∀ b off len cap, v = .slice (some ⟨b, off, none⟩) len cap → False := by
  unfold zeroFits at h
  split at h
  · simp only [Bool.not_eq_true'] at h; subst h; exact ⟨.bool _, by simp⟩
  · simp only [Bool.and_eq_true, beq_iff_eq] at h; obtain ⟨h1, h2⟩ := h; subst h1; subst h2; exact ⟨.int _ _, by simp⟩
  · rename_i s0
    simp only [beq_iff_eq] at h
    have : s0 = ⟨([] : List UInt8).toArray⟩ := by
      apply ByteArray.ext
      exact Array.eq_empty_of_size_eq_zero h
    subst this
    exact ⟨.str [] (by simp), by simp⟩
  · exact ⟨.nilp, by simp⟩
  · exact ⟨.nilif, by simp⟩
  · exact ⟨.nilfn, by simp⟩
  · exact ⟨.slnil _, by simp⟩
  · cases h

theorem zeroFitsAll_spec : ∀ (l : List D) (m : List Value), zeroFitsAll l m = true → l.length = m.length ∧ ∀ (i : Nat) (x : D) (v : Value), l[i]? = some x → m[i]? = some v → zeroFits x v = true := by
  intro l
  induction l with
  | nil => intro m h; cases m with
    | nil => simp
    | cons => simp [zeroFitsAll] at h
  | cons x l ih =>
    intro m h
    cases m with
    | nil => simp [zeroFitsAll] at h
    | cons v m =>
      simp only [zeroFitsAll, Bool.and_eq_true] at h
      obtain ⟨i1, i2⟩ := ih m h.2
      refine ⟨by simp [i1], ?_⟩
      intro i y u hy hu
      cases i with
      | zero => simp only [List.getElem?_cons_zero, Option.some.injEq] at hy hu; rw [← hy, ← hu]; exact h.1
      | succ i => exact i2 i y u (by simpa using hy) (by simpa using hu)

theorem zeroT_spec {t : TypeId} {l : List (D × Option Nat)} (h : zeroT P t = some l) : ∃ z, (∀ w, (zeroValue t).run P w = .ok z w) ∧ z.cells.size = l.length ∧
    ∀ i x, l[i]? = some x → zeroFits x.1 (z.cells.getD i undef) = true := by
  unfold zeroT at h
  cases hi : P.info? t with
  | none => rw [hi] at h; cases h
  | some i =>
    rw [hi] at h
    simp only [Option.bind_eq_bind, Option.bind_some] at h
    cases hz : i.zero with
    | none => rw [hz] at h; cases h
    | some z =>
      rw [hz] at h
      simp only [Option.bind_some] at h
      cases hl : zeroOf P 8 t with
      | none => rw [hl] at h; cases h
      | some l' =>
        rw [hl] at h
        simp only [Option.bind_some] at h
        split at h
        · rename_i hf
          cases h
          obtain ⟨f1, f2⟩ := zeroFitsAll_spec _ _ hf
          refine ⟨z, fun w => by simp [zeroValue, typeInfo, hi, hz], by simpa using f1.symm, ?_⟩
          intro j x hx
          have hlt : j < z.cells.size := by
            have := (List.getElem?_eq_some_iff.1 hx).1
            simp only [List.length_map, Array.length_toList] at f1
            omega
          refine f2 j x.1 _ (by simp [hx]) ?_
          rw [Array.getElem?_toList]
          exact getElem?_of_getD hlt
        · cases h

theorem mem_ownOfZero {l : List (D × Option Nat)} {i c : Nat} (h : (i, c) ∈ ownOfZero l) : ∃ x, l[i]? = some (x, some c) := by
  unfold ownOfZero at h
  rw [List.mem_filterMap] at h
  obtain ⟨⟨p, j⟩, hm, hp⟩ := h
  obtain ⟨x, c0⟩ := p
  cases c0 with
  | none => simp at hp
  | some c0 =>
    simp only [Option.map_some, Option.some.injEq, Prod.mk.injEq] at hp
    obtain ⟨rfl, rfl⟩ := hp
    refine ⟨x, ?_⟩
    have := List.mem_zipIdx_iff_getElem?.1 hm
    simpa using this

theorem addOwns {L : List (Loc × Nat)} : ∀ {s : St} (_ : Rel X σ β s a w) (_ : ∀ l c, (l, c) ∈ L → ∃ v, locVal β a w l = some v ∧ ownB v = none ∧ OwnV X σ β w c v), Rel X σ β { s with own := L ++ s.own } a w := by
  induction L with
  | nil => intro s h _; exact h
  | cons p r ih =>
    intro s h hl
    obtain ⟨l, c⟩ := p
    have h1 := ih (s := s) h (fun l c hm => hl l c (.tail _ hm))
    obtain ⟨v, hv, hb, ho⟩ := hl l c (.head _)
    exact Rel.addOwn (s := { s with own := r ++ s.own }) h1 hv ho (fun _ _ _ _ _ _ _ _ => by rw [hb]; simp)

theorem s_alloc (h : Rel X σ β s a w) (hd : ∀ i, o.dst = some i → i < s.n) {t : TypeId} {l : List (D × Option Nat)} (ho : o.op = .alloc t) (hl : zeroT P t = some l)
    (hv : vcOp (.alloc (l.map fun p => .d p.1) (ownOfZero l)) o.dst s K KP) : o.wp P a w (Nx X s.n s.k σ β w K) (Pn X s σ β w KP) := by
  simp only [vcOp] at hv
  split at hv
  · rename_i d hdd
    obtain ⟨hn, hK⟩ := hv
    obtain ⟨z, hz, hzs, hzf⟩ := zeroT_spec hl
    have hr : ∀ j (x : A), (l.map fun p => A.d p.1)[j]? = some x → RA σ β x (z.cells.getD j undef) := by
      intro j x hx
      rw [List.getElem?_map] at hx
      cases hq : l[j]? with
      | none => rw [hq] at hx; cases hx
      | some p =>
        rw [hq] at hx
        simp only [Option.map_some, Option.some.injEq] at hx
        subst hx
        exact .d _ _ (zeroFits_ra (hzf j p hq)).1
    have h1 := h.newBox (T := t) (hd d hdd) hn (by simpa using hzs) hr
    have hrun : (execOp a.eval o).run P w = .ok (.value (.pointer (some ⟨w.heap.size, 0, none⟩))) (w.alloc (.cells z.cells t)) := by
      simp only [execOp, ho, Instr.alloc, Sem.run_bind, hz, Result.andThen_ok, newVar, newRow, run_newObj, Sem.run_pure]
      rfl
    unfold Oper.wp
    rw [hrun, Oper.upon_value, hdd]
    refine ⟨_, σ, _, hK, rfl, rfl, ?_, Step.newBlock h (Nat.le_add_right s.k d)⟩
    refine addOwns (s := { s with t := (d, .ptr (s.k + d) 0) :: s.t, bx := (s.k + d, l.map fun p => .d p.1) :: s.bx, own := dropOt d s.own }) h1 ?_
    intro lc c hm
    rw [List.mem_map] at hm
    obtain ⟨⟨i, c'⟩, hm, e⟩ := hm
    cases e
    obtain ⟨x, hx⟩ := mem_ownOfZero hm
    have hi := (List.getElem?_eq_some_iff.1 hx).1
    have hfit := hzf i _ hx
    refine ⟨z.cells.getD i undef, ?_, ?_, ?_⟩
    · simp only [locVal, updN, if_true, Option.bind_some]
      rw [cell_of_block (arr := z.cells) (T := t) (fz := (0, 0)) heap_push_eq]
      exact getElem?_of_getD (by omega)
    · have := (zeroFits_ra (σ := σ) hfit).2
      unfold ownB
      split
      · rename_i b off len cap e; exact (this b off len cap e).elim
      · rfl
    · intro b off len cap e hlt
      exact ((zeroFits_ra (σ := σ) hfit).2 b off len cap e).elim
  · exact hv.elim

/-- Places whose slices are full may count as owned. -/
theorem Rel.vac {X : Ctx} {σ : Store} {β : Names} {s : St} {a : Act} {w : World} (h : Rel X σ β s a w) (ex : List (Loc × Nat))
    (hex : ∀ l c, (l, c) ∈ ex → ∃ v, locVal β a w l = some v ∧ ∀ p len cap, v = .slice p len cap → cap ≤ len) : Rel X σ β { s with own := ex ++ s.own } a w := by
  have hno : ∀ l c v b, (l, c) ∈ ex → locVal β a w l = some v → ownB v ≠ some b := by
    intro l c v b hl hv
    obtain ⟨v', hv', hf⟩ := hex l c hl
    rw [hv] at hv'; cases hv'
    intro e
    unfold ownB at e
    split at e
    · have := hf _ _ _ rfl
      split at e
      · omega
      · cases e
    · cases e
  refine ⟨h.size, h.defs, h.tmp, h.st, h.xs, h.box, h.dom, h.inj, ?_, ?_⟩
  · intro l c hl
    rcases List.mem_append.1 hl with hl | hl
    · obtain ⟨v, hv, hf⟩ := hex l c hl
      refine ⟨v, hv, fun b off len cap e hlt => ?_⟩
      have := hf _ _ _ e
      omega
    · exact h.own l c hl
  · intro l c l' c' hl hl' hne v v' b hv hv' hb
    rcases List.mem_append.1 hl with hl | hl
    · exact (hno l c v b hl hv hb).elim
    · rcases List.mem_append.1 hl' with hl' | hl'
      · exact hno l' c' v' b hl' hv'
      · exact h.sep l c l' c' hl hl' hne v v' b hv hv' hb

theorem fulOwn_spec {m : Nat} : ∀ {cs : List A} {i : Nat} {l : Loc} {c : Nat}, (l, c) ∈ fulOwn m i cs → ∃ j es, cs[j]? = some (.ful c es) ∧ l = .b m (i + j) := by
  intro cs
  induction cs with
  | nil => intro i l c hl; simp [fulOwn] at hl
  | cons x r ih =>
    intro i l c hl
    have tl : (l, c) ∈ fulOwn m (i + 1) r → ∃ j es, (x :: r)[j]? = some (.ful c es) ∧ l = .b m (i + j) := fun hq => by
      obtain ⟨j, es, h1, h2⟩ := ih hq
      exact ⟨j + 1, es, by simpa using h1, by rw [h2]; congr 1; omega⟩
    cases x with
    | ful c' es =>
      simp only [fulOwn, List.mem_cons, Prod.mk.injEq] at hl
      rcases hl with ⟨rfl, rfl⟩ | hl
      · exact ⟨0, es, rfl, rfl⟩
      · exact tl hl
    | _ => exact tl hl

theorem plain_ra {σ : Store} {β : Names} {x : A} {v : Value} (h : RA σ β x v) : RA σ β (plainA x) v := by
  cases h with
  | ful c es v h hf => exact .d _ _ h
  | any v => exact .any v
  | d x v h => exact .d x v h
  | ptr n off b h => exact .ptr n off b h
  | agg cs vs hn h => exact .agg cs vs hn h
  | clo f cs vs hn h => exact .clo f cs vs hn h
  | tup cs vs hn h => exact .tup cs vs hn h
  | bsl n off len cap b h => exact .bsl n off len cap b h
  | ep e b off f hs hr => exact .ep e b off f hs hr
  | nil c => exact .nil c

theorem s_box (h : Rel X σ β s a w) (hd : ∀ i, o.dst = some i → i < s.n) {t : TypeId} {c : Nat} {x : Operand} {x' : Opd} (ho : o.op = .box t x) (hx : cOpd x = some x')
    (hv : vcOp (.box c x') o.dst s K KP) : o.wp P a w (Nx X s.n s.k σ β w K) (Pn X s σ β w KP) := by
  simp only [vcOp] at hv
  have h0 := ev_ok h hx
  split at hv
  · rename_i d cs hdd hcs
    obtain ⟨hn, hcl, hK⟩ := hv
    obtain ⟨c1, c2⟩ := cells_of_ra h0 hcs
    have h1 := h.newBox (T := t) (cs := plB c cs) (hd d hdd) hn (by unfold plB; cases c == 1 <;> simpa using c1) (fun j x hx => by
      unfold plB at hx
      cases hc1 : c == 1 with
      | false => rw [hc1] at hx; exact c2 j x hx
      | true =>
      rw [hc1, cond_true, List.getElem?_map] at hx
      cases hq : cs[j]? with
      | none => rw [hq] at hx; cases hx
      | some y => rw [hq] at hx; cases hx; exact plain_ra (c2 j y hq))
    have h2 := h1.vac (plO c (s.k + d) cs) (fun l c0 hl => by
      have hl : (l, c0) ∈ fulOwn (s.k + d) 0 cs := by
        unfold plO at hl
        cases hc1 : c == 1 with
        | false => rw [hc1] at hl; cases hl
        | true => rw [hc1] at hl; exact hl
      obtain ⟨j, es, hj, rfl⟩ := fulOwn_spec hl
      have hra := c2 j _ hj
      have hlt : j < (a.eval x).cells.size := by rw [c1]; exact (List.getElem?_eq_some_iff.1 hj).1
      refine ⟨(a.eval x).cells.getD j undef, ?_, ?_⟩
      · simp only [locVal, updN, if_true, Option.bind_some, Nat.zero_add]
        rw [cell_of_block heap_push_eq]
        exact getElem?_of_getD hlt
      · cases hra with
        | ful _ _ _ _ hf => exact hf)
    have hrun : (execOp a.eval o).run P w = .ok (.value (.pointer (some ⟨w.heap.size, 0, none⟩))) (w.alloc (.cells (a.eval x).cells t)) := by
      simp only [execOp, ho, Instr.box, Sem.run_bind, Result.andThen_ok, newVar, newRow, run_newObj, Sem.run_pure]
      rfl
    unfold Oper.wp
    rw [hrun, Oper.upon_value, hdd]
    exact ⟨_, σ, _, hK, rfl, rfl, h2, Step.newBlock h (Nat.le_add_right s.k d)⟩
  · exact hv.elim

end
end Go.Vx

/- Soundness: stores, new slices, appends. -/
namespace Go.Vx
set_option linter.unusedVariables false
set_option linter.unusedSimpArgs false
open Go

theorem lay_len {α : Type} (r : List α) : ∀ (l : List α) (o : Nat), (lay l o r).length = l.length := by
  induction r with
  | nil => intro l o; rfl
  | cons x r ih => intro l o; simp [lay, ih]

theorem lay_get {α : Type} (r : List α) : ∀ (l : List α) (o j : Nat), o + r.length ≤ l.length →
    (lay l o r)[j]? = if o ≤ j ∧ j < o + r.length then r[j - o]? else l[j]? := by
  induction r with
  | nil =>
    intro l o j _
    have : ¬ (o ≤ j ∧ j < o + ([] : List α).length) := by simp
    rw [if_neg this]; rfl
  | cons x r ih =>
    intro l o j h
    simp only [List.length_cons] at h
    show (lay (l.set o x) (o + 1) r)[j]? = _
    rw [ih _ _ _ (by simp; omega)]
    by_cases h1 : o + 1 ≤ j ∧ j < o + 1 + r.length
    · rw [if_pos h1, if_pos (by simp; omega)]
      rw [show j - o = (j - (o + 1)) + 1 by omega]
      rfl
    · rw [if_neg h1]
      by_cases h2 : j = o
      · subst h2
        rw [if_pos (by simp)]
        rw [List.getElem?_set_self (by omega)]
        simp
      · rw [if_neg (by simp; omega)]
        rw [List.getElem?_set_ne (by omega)]

theorem mem_dropOr {n lo hi : Nat} {l : Loc} {c : Nat} {ow : List (Loc × Nat)} : (l, c) ∈ dropOr n lo hi ow ↔ (l, c) ∈ ow ∧ ∀ o, l = .b n o → ¬ (lo ≤ o ∧ o < hi) := by
  induction ow with
  | nil => simp [dropOr]
  | cons p r ih =>
    obtain ⟨q, e⟩ := p
    cases q with
    | t i =>
      simp only [dropOr, List.mem_cons, ih]
      constructor
      · rintro (hm | hm)
        · cases hm; exact ⟨.inl rfl, by simp⟩
        · exact ⟨.inr hm.1, hm.2⟩
      · rintro ⟨hm | hm, h2⟩
        · exact .inl hm
        · exact .inr ⟨hm, h2⟩
    | b m o =>
      cases h : (m == n) && (Nat.ble lo o && Nat.blt o hi) with
      | true =>
        simp only [dropOr, h, cond_true, ih, List.mem_cons]
        simp only [Bool.and_eq_true, beq_iff_eq, Nat.ble_eq, Nat.blt_eq] at h
        constructor
        · rintro hm; exact ⟨.inr hm.1, hm.2⟩
        · rintro ⟨hm | hm, h2⟩
          · cases hm
            exact (h2 o (by rw [h.1]) h.2).elim
          · exact ⟨hm, h2⟩
      | false =>
        simp only [dropOr, h, cond_false, List.mem_cons, ih]
        constructor
        · rintro (hm | hm)
          · cases hm
            refine ⟨.inl rfl, ?_⟩
            intro o' e hb
            injection e with e1 e2
            subst e1; subst e2
            have h1 : Nat.ble lo o = true := by rw [Nat.ble_eq]; exact hb.1
            have h2 : Nat.blt o hi = true := by rw [Nat.blt_eq]; exact hb.2
            simp [h1, h2] at h
          · exact ⟨.inr hm.1, hm.2⟩
        · rintro ⟨hm | hm, h2⟩
          · exact .inl hm
          · exact .inr ⟨hm, h2⟩

section
variable {P : Program} {o : Oper} {X : Ctx} {σ : Store} {β : Names} {s : St} {a : Act} {w : World} {K : St → Prop} {KP : D → Prop}

/-- Cells of a box are written. -/
theorem Rel.layBox (h : Rel X σ β s a w) {n off b : Nat} {cs xs : List A} {vs : List Value} (hcs : lookB n s.bx = some cs) (hb : β n = some b) (hl : vs.length = xs.length) (hle : off + xs.length ≤ cs.length)
    (hr : ∀ i x, xs[i]? = some x → RA σ β x (vs.getD i undef)) :
    Rel X σ β { s with bx := setB n (lay cs off xs) s.bx, own := dropOr n off (off + xs.length) s.own } a (w.setCells b off vs) := by
  obtain ⟨b', arr, T, fz, hb', hh, hsz, hrr, hxx, hσ, hf⟩ := h.box n cs hcs
  rw [hb] at hb'; cases hb'
  have hrest := setCells_rest b vs off w
  refine h.setBox hcs hb hh (fun b' hne => heap_setCells_other hne vs off w) (by rw [hrest.1]; exact Nat.le_refl _) (heap_setCells_same vs off w arr hh) (by rw [size_splice, lay_len]; exact hsz) ?_ ?_ ?_
  · intro j x hx
    rw [lay_get _ _ _ _ hle] at hx
    rw [Array.getD_eq_getD_getElem?, getElem?_splice _ _ _ _ (by rw [hl]; omega)]
    rw [hl]
    by_cases hj : off ≤ j ∧ j < off + xs.length
    · rw [if_pos hj] at hx ⊢
      have := hr _ _ hx
      rw [List.getD_eq_getElem?_getD] at this
      exact this
    · rw [if_neg hj] at hx ⊢
      have := hrr j x hx
      rw [Array.getD_eq_getD_getElem?] at this
      exact this
  · rw [size_splice]
    exact hf
  · intro l c hm
    obtain ⟨h1, h2⟩ := mem_dropOr.1 hm
    refine ⟨h1, fun o e => ?_⟩
    have := h2 o e
    rw [getElem?_splice _ _ _ _ (by rw [hl]; omega), if_neg (by rw [hl]; exact this)]

theorem Step.layBox (h : Rel X σ β s a w) {n off b k : Nat} {cs : List A} {vs : List Value} (hcs : lookB n s.bx = some cs) (hb : β n = some b) : Step X k σ β w σ β (w.setCells b off vs) := by
  obtain ⟨b', arr, T, fz, hb', hh, hsz, hrr, hxx, hσ, hf⟩ := h.box n cs hcs
  rw [hb] at hb'; cases hb'
  obtain ⟨r1, r2, r3, r4⟩ := setCells_rest b vs off w
  exact ⟨Store.le_refl _, fun b' hX => ⟨(heap_setCells_other (b := b) (b' := b') (fun e => hxx (by rw [← e]; exact hX)) vs off w), fun _ => rfl⟩, by rw [r1]; exact Nat.le_refl _, r2, r3, r4, fun _ _ => rfl⟩

theorem s_store (h : Rel X σ β s a w) {t : TypeId} {c : Nat} {x v : Operand} {x' v' : Opd} (hdst : o.dst = none) (ho : o.op = .store t x v) (hx : cOpd x = some x') (hvv : cOpd v = some v')
    (hc : tySize P t = some c) (hv : vcOp (.store c x' v') o.dst s K KP) : o.wp P a w (Nx X s.n s.k σ β w K) (Pn X s σ β w KP) := by
  simp only [vcOp] at hv
  have h1 := ev_ok h hx
  have h2 := ev_ok h hvv
  split at hv
  · rename_i n off xs e1 e2
    rw [e1] at h1
    obtain ⟨b, hb, e⟩ := ra_ptr h1
    obtain ⟨c1, c2⟩ := cells_of_ra h2 e2
    split at hv
    · rename_i cs hcs
      obtain ⟨hxl, hle, hall, hK⟩ := hv
      obtain ⟨b', arr, T, fz, hb', hh, hsz, hrr, hxx, hσ, hf⟩ := h.box n cs hcs
      rw [hb] at hb'; cases hb'
      have hvl : (a.eval v).cells.toList.length = xs.length := by simpa using c1
      have hrun : (execOp a.eval o).run P w = .ok .skip (w.setCells b off (a.eval v).cells.toList) := by
        have hst := run_storeCells_cells (P := P) b off (a.eval v).cells.toList 0 w
          (fun j hj => by
            rw [hvl] at hj
            rw [cell_of_block hh]
            have hj' : off + 0 + j < arr.size := by omega
            rw [Array.getElem?_eq_getElem hj']; rfl)
          (fun j hj => hf.frozen hh (o := off + 0 + j) (by rw [hvl] at hj; omega))
          (fun u hu => by
            obtain ⟨i, hi, e⟩ := List.getElem_of_mem hu
            have hi' : i < xs.length := by omega
            have := c2 i xs[i] (List.getElem?_eq_getElem hi')
            have e' : (a.eval v).cells.getD i undef = u := by
              rw [Array.getD_eq_getD_getElem?]
              simp only [Array.length_toList] at hi
              rw [Array.getElem?_eq_getElem hi]
              simpa using e
            rw [e'] at this
            exact oneCell_of_ra this (List.all_eq_true.1 hall _ (List.getElem_mem hi')))
        simp only [Nat.add_zero] at hst
        have hsz' : (a.eval v).cells.size = c := by omega
        simp only [execOp, ho, e, Instr.storeAt, Instr.sureAddr, storeVar, Sem.run_bind, Sem.run_pure, Result.andThen_ok, run_size hc, hsz', ne_eq, not_true_eq_false, if_false, hst]
      have hR := h.layBox (off := off) hcs hb hvl (by rw [hxl]; exact hle) (fun i x hx => by
        have := c2 i x hx
        rw [Array.getD_eq_getD_getElem?] at this
        rw [List.getD_eq_getElem?_getD, Array.getElem?_toList]
        exact this)
      rw [hxl] at hR
      have hS := Step.layBox (k := s.k) (off := off) (vs := (a.eval v).cells.toList) h hcs hb
      unfold Oper.wp
      rw [hrun, Oper.upon_skip, hdst]
      have base : K { s with bx := setB n (lay cs off xs) s.bx, own := dropOr n off (off + c) s.own } →
          Nx X s.n s.k σ β w K (a.put none undef) (w.setCells b off (a.eval v).cells.toList) := fun hk => ⟨_, σ, β, hk, rfl, rfl, hR, hS⟩
      split at hK
      · rename_i i
        split at hK
        · rename_i c' es oc hes hoc
          refine ⟨_, σ, β, hK, rfl, rfl, ?_, hS⟩
          have hm := mem_take_own hoc
          cases v with
          | tmp tv =>
            simp only [cOpd, Option.some.injEq, Opd.t.injEq] at hvv
            subst hvv
            have hm1 : (Loc.t tv, oc) ∈ dropOr n off (off + c) s.own := mem_dropOr.2 ⟨hm, by simp⟩
            have e2' : cellsOfA (look tv s.t) = some xs := e2
            rw [hes] at e2'
            simp only [cellsOfA, Option.some.injEq] at e2'
            subst e2'
            have hcell : (a.tmps.getD tv undef).cells = #[a.tmps.getD tv undef] := by
              have h3 := h.tmp tv
              rw [hes] at h3
              obtain ⟨_, h4⟩ := ra_sl h3
              rcases h4 with ⟨_, _, h4⟩ | ⟨b4, o4, c4, f4, h4, _⟩ <;> rw [h4] <;> rfl
            have hc1 : 1 = c := by simpa using hxl
            have hset : cs.set off (.d (.sl c' es)) = lay cs off [.d (.sl c' es)] := rfl
            rw [hset]
            refine (hR.moveOwn (l := .t tv) (l' := .b n off) (v := a.tmps.getD tv undef) hm1 rfl ?_ (ow := dropOr n off (off + c) (dropOt tv s.own)) (fun p hp => ?_))
            · simp only [locVal, hb, Option.bind_some]
              rw [cell_of_block (heap_setCells_same _ off w arr hh)]
              rw [getElem?_splice _ _ _ _ (by show off + (a.tmps.getD tv undef).cells.toList.length ≤ _; rw [hcell]; simp; omega)]
              show (if off ≤ off ∧ off < off + (a.tmps.getD tv undef).cells.toList.length then _ else _) = _
              have he : a.eval (Operand.tmp tv) = a.tmps.getD tv undef := rfl
              rw [he, hcell]
              simp
            · obtain ⟨p1, p2⟩ := p
              obtain ⟨q1, q2⟩ := mem_dropOr.1 hp
              obtain ⟨q3, q4⟩ := mem_dropOt q1
              exact ⟨mem_dropOr.2 ⟨q3, q2⟩, q4⟩
          | const _ => simp only [cOpd] at hvv; rename_i vv; cases hq : aOf vv <;> rw [hq] at hvv <;> simp at hvv
          | func _ => simp [cOpd] at hvv
          | global _ => simp [cOpd] at hvv
        · exact base hK
      · exact base hK
    · exact hv.elim
  · exact hv.elim


/-- More cells are settled: in one block, from 'lo' on, where nothing was. -/
theorem Rel.extend (h : Rel X σ β s a w) {b lo hi : Nat} {arr : Array Value} {T : TypeId} {fz : Nat × Nat} {w' : World} (hsize : w.heap.size ≤ w'.heap.size)
    (hother : ∀ b', b' ≠ b → b' < w.heap.size → w'.heap[b']? = w.heap[b']?) (hh : w'.heap[b]? = some (.cells arr T fz)) (hhi : hi ≤ arr.size)
    (hno : ∀ o, lo ≤ o → σ b o = none) (hold : ∀ o v, σ b o = some v → arr[o]? = some v) (hbox : ∀ n, β n ≠ some b)
    (hown : ∀ l c v, (l, c) ∈ s.own → locVal β a w l = some v → ownB v ≠ some b) :
    Rel X (fun b' o => if b' = b ∧ lo ≤ o ∧ o < hi then arr[o]? else σ b' o) β s a w' := by
  refine h.move (fun b' => b' = b) (fun b' hne hlt => .inl (hother b' hne hlt)) hsize ?_ ?_ ?_ ?_ ?_
  · intro b' o v hv
    show (if _ then _ else _) = _
    rw [if_neg]
    · exact hv
    · rintro ⟨rfl, h1, _⟩
      rw [hno o h1] at hv; cases hv
  · intro b' o v hv
    split at hv
    · rename_i hc
      obtain ⟨e, _⟩ := hc
      subst e
      rw [cell_of_block hh]; exact hv
    · by_cases e : b' = b
      · subst e; rw [cell_of_block hh]; exact hold o v hv
      · have := h.st b' o v hv
        rw [cell_of_heap (hother b' e (lt_of_cell this))]; exact this
  · intro b' hne _ o
    show (if _ then _ else _) = _
    rw [if_neg (fun e => hne e.1)]
  · intro b' e n; subst e; exact hbox n
  · intro l c v b' hl hv hb e
    subst e
    exact hown l c v hl hv hb

theorem le_extend {b lo hi : Nat} {arr : Array Value} (hno : ∀ o, lo ≤ o → σ b o = none) : σ.le (fun b' o => if b' = b ∧ lo ≤ o ∧ o < hi then arr[o]? else σ b' o) := by
  intro b' o v hv
  show (if _ then _ else _) = _
  rw [if_neg]
  · exact hv
  · rintro ⟨rfl, h1, _⟩
    rw [hno o h1] at hv; cases hv

theorem flatten_get {α : Type} {c : Nat} : ∀ (es : List (List α)) (_ : ∀ e, e ∈ es → e.length = c) (i j : Nat) (e : List α) (x : α), es[i]? = some e → e[j]? = some x → es.flatten[i * c + j]? = some x := by
  intro es
  induction es with
  | nil => intro _ i j e x h; simp at h
  | cons e0 r ih =>
    intro hc i j e x he hx
    have h0 := hc e0 (.head _)
    cases i with
    | zero =>
      simp only [List.getElem?_cons_zero, Option.some.injEq] at he
      subst he
      simp only [Nat.zero_mul, Nat.zero_add, List.flatten_cons]
      rw [List.getElem?_append_left (List.getElem?_eq_some_iff.1 hx).1]
      exact hx
    | succ i =>
      simp only [List.getElem?_cons_succ] at he
      have := ih (fun e he => hc e (.tail _ he)) i j e x he hx
      rw [List.flatten_cons, List.getElem?_append_right (by rw [h0, Nat.succ_mul]; omega)]
      rw [h0, show (i + 1) * c + j - c = i * c + j by rw [Nat.succ_mul]; omega]
      exact this

theorem flatten_len {α : Type} {c : Nat} : ∀ (es : List (List α)) (_ : ∀ e, e ∈ es → e.length = c), es.flatten.length = es.length * c := by
  intro es
  induction es with
  | nil => intro _; simp
  | cons e0 r ih =>
    intro hc
    rw [List.flatten_cons, List.length_append, ih (fun e he => hc e (.tail _ he)), hc e0 (.head _), List.length_cons, Nat.succ_mul]
    omega

/-- A new block that a slice owns. -/
theorem Rel.newSlice (h : Rel X σ β s a w) {w' : World} {c cap : Nat} {es : List (List D)} {arr : Array Value} {T : TypeId} {fz : Nat × Nat} (hl : es.length ≤ maxL) (hcap : es.length ≤ cap) (hc : ∀ e, e ∈ es → e.length = c)
    (hsz : cap * c ≤ arr.size) (hr : ∀ j x, es.flatten[j]? = some x → Reads σ x (arr.getD j undef))
    (hheap : w'.heap = w.heap.push (.cells arr T fz)) (hff : Unf arr.size fz) :
    ∃ σ', Rel X σ' β s a w' ∧ σ.le σ' ∧ (∀ b, X b → ∀ o, σ' b o = σ b o) ∧ Reads σ' (.sl c es) (.slice (some ⟨w.heap.size, 0, none⟩) es.length cap) ∧
      OwnV X σ' β w' c (.slice (some ⟨w.heap.size, 0, none⟩) es.length cap) ∧
      (∀ l' c' v', (l', c') ∈ s.own → locVal β a w' l' = some v' → ownB v' ≠ some w.heap.size) := by
  have hno : ∀ o, σ w.heap.size o = none := by
    intro o
    cases hσ : σ w.heap.size o with
    | none => rfl
    | some v => exact (Nat.lt_irrefl _ (lt_of_cell (h.st _ _ _ hσ))).elim
  have hh : w'.heap[w.heap.size]? = some (.cells arr T fz) := by rw [hheap]; exact heap_push_eq
  have hother : ∀ b', b' ≠ w.heap.size → b' < w.heap.size → w'.heap[b']? = w.heap[b']? := fun b' _ hlt => by rw [hheap]; exact heap_push_lt hlt
  have hnoB : ∀ n, β n ≠ some w.heap.size := fun n hn => Nat.lt_irrefl _ (h.lt hn)
  have hfl := flatten_len es hc
  have hhi : es.length * c ≤ arr.size := Nat.le_trans (Nat.mul_le_mul_right _ hcap) hsz
  have hR := h.extend (b := w.heap.size) (lo := 0) (hi := es.length * c) (w' := w') (by rw [hheap]; simp) hother hh hhi (fun o _ => hno o) (fun o v hv => by rw [hno] at hv; cases hv) hnoB
    (fun l c' v hl hv hb => Nat.lt_irrefl _ (h.ownLt hl hv hb).1)
  have hle : σ.le _ := le_extend (σ := σ) (b := w.heap.size) (lo := 0) (hi := es.length * c) (arr := arr) (fun o _ => hno o)
  refine ⟨_, hR, hle, ?_, ?_, ?_, ?_⟩
  · intro b hb o
    show (if _ then _ else _) = _
    rw [if_neg (fun e => Nat.lt_irrefl _ (e.1 ▸ h.xs b hb))]
  · refine .sl c es w.heap.size 0 cap (fun i j => arr.getD (i * c + j) undef) hl hcap hc ?_ ?_
    · intro i e he j x hx
      have hlt : i * c + j < es.flatten.length := (List.getElem?_eq_some_iff.1 (flatten_get es hc i j e x he hx)).1
      show (if _ then _ else _) = _
      rw [if_pos ⟨rfl, Nat.zero_le _, by omega⟩, Nat.zero_add]
      exact getElem?_of_getD (by omega)
    · intro i e he j x hx
      exact (hr _ _ (flatten_get es hc i j e x he hx)).mono hle
  · intro b off len cap' e hlt
    cases e
    refine ⟨⟨arr, T, fz, hh, by omega, hff⟩, ?_, fun hX => Nat.lt_irrefl _ (h.xs _ hX), hnoB⟩
    intro o ho
    show (if _ then _ else _) = _
    rw [if_neg (fun e => by omega)]
    exact hno o
  · intro l' c' v' hl' hv' hb
    have := (hR.ownLt hl' hv' hb)
    have h0 : locVal β a w l' = some v' := by
      cases l' with
      | t i => exact hv'
      | b n off =>
        simp only [locVal] at hv' ⊢
        cases hbn : β n with
        | none => rw [hbn] at hv'; cases hv'
        | some bn =>
          rw [hbn] at hv'
          simp only [Option.bind_some] at hv' ⊢
          rw [← hv']
          exact (cell_of_heap (hother bn (fun e => Nat.lt_irrefl _ (e ▸ h.lt hbn)) (h.lt hbn)) off).symm
    exact Nat.lt_irrefl _ (h.ownLt hl' h0 hb).1

theorem Step.newSlice (h : Rel X σ β s a w) {k : Nat} {σ' : Store} {w' : World} {ob : Obj} (hheap : w'.heap = w.heap.push ob) (hle : σ.le σ') (hx : ∀ b, X b → ∀ o, σ' b o = σ b o)
    (h1 : w'.os = w.os) (h2 : w'.tape = w.tape) (h3 : w'.output = w.output) : Step X k σ β w σ' β w' :=
  ⟨hle, fun b hb => ⟨by rw [hheap]; exact heap_push_lt (h.xs b hb), hx b hb⟩, by rw [hheap]; simp, h1, h2, h3, fun _ _ => rfl⟩

/-- A new slice into a temporary. -/
theorem newSlice_put (h : Rel X σ β s a w) {d : Nat} (hd : d < s.n) {w' : World} {c cap : Nat} {es : List (List D)} {arr : Array Value} {T : TypeId} {fz : Nat × Nat} (hl : es.length ≤ maxL) (hcap : es.length ≤ cap) (hc : ∀ e, e ∈ es → e.length = c)
    (hsz : cap * c ≤ arr.size) (hr : ∀ j x, es.flatten[j]? = some x → Reads σ x (arr.getD j undef))
    (hheap : w'.heap = w.heap.push (.cells arr T fz)) (hff : Unf arr.size fz) (h1 : w'.os = w.os) (h2 : w'.tape = w.tape) (h3 : w'.output = w.output) :
    ∃ σ', Rel X σ' β (s.setO d c (.d (.sl c es))) (a.put (some d) (.slice (some ⟨w.heap.size, 0, none⟩) es.length cap)) w' ∧ Step X s.k σ β w σ' β w' := by
  obtain ⟨σ', hR, hle, hx, hrd, hown, hsep⟩ := h.newSlice hl hcap hc hsz hr hheap hff
  refine ⟨σ', setO_rel hR hd (.d _ _ hrd) hown ?_, Step.newSlice h hheap hle hx h1 h2 h3⟩
  intro l' c' v' b hl' _ hv' hb e
  have : b = w.heap.size := by
    unfold ownB at e
    simp only at e
    split at e
    · cases e; rfl
    · cases e
  subst this
  exact hsep l' c' v' hl' hv' hb

theorem newSlice_ful (h : Rel X σ β s a w) {d : Nat} (hd : d < s.n) {w' : World} {c cap : Nat} {es : List (List D)} {arr : Array Value} {T : TypeId} {fz : Nat × Nat} (hl : es.length ≤ maxL) (hcap : es.length = cap) (hc : ∀ e, e ∈ es → e.length = c)
    (hsz : cap * c ≤ arr.size) (hr : ∀ j x, es.flatten[j]? = some x → Reads σ x (arr.getD j undef))
    (hheap : w'.heap = w.heap.push (.cells arr T fz)) (hff : Unf arr.size fz) (h1 : w'.os = w.os) (h2 : w'.tape = w.tape) (h3 : w'.output = w.output) :
    ∃ σ', Rel X σ' β (s.set d (.ful c es)) (a.put (some d) (.slice (some ⟨w.heap.size, 0, none⟩) cap cap)) w' ∧ Step X s.k σ β w σ' β w' := by
  obtain ⟨σ', hR, hle, hx, hrd, hown, hsep⟩ := h.newSlice hl (Nat.le_of_eq hcap) hc hsz hr hheap hff
  rw [hcap] at hrd
  exact ⟨σ', hR.put hd (.ful _ _ _ hrd (fun _ _ _ e => by cases e; exact Nat.le_refl _)), Step.newSlice h hheap hle hx h1 h2 h3⟩

end
end Go.Vx

/- Soundness: values that are built; slices of slices; conversions; appends. -/
namespace Go.Vx
set_option linter.unusedVariables false
set_option linter.unusedSimpArgs false
open Go

section
variable {P : Program} {o : Oper} {X : Ctx} {σ : Store} {β : Names} {s : St} {a : Act} {w : World} {K : St → Prop} {KP : D → Prop}

theorem foldl_splice : ∀ (vs : List Value) (k : Nat) (off : Nat) (cells : Array Value),
    (vs.zipIdx k).foldl (fun cs (p : Value × Nat) => cs.setIfInBounds (off + p.2) p.1) cells = splice cells (off + k) vs := by
  intro vs
  induction vs with
  | nil => intro k off cells; rfl
  | cons v r ih =>
    intro k off cells
    rw [List.zipIdx_cons, List.foldl_cons, ih]
    rfl

theorem fill_step (place : Nat → Option (Nat × Nat)) (cells : Array Value) (i : Nat) (v : Value) (rest : List (Nat × Value)) {off size : Nat} (hp : place i = some (off, size)) (h1 : v.cells.size = size) (h2 : off + v.cells.size ≤ cells.size) :
    Instr.fill place cells ((i, v) :: rest) = Instr.fill place (splice cells off v.cells.toList) rest := by
  have hf : v.cells.zipIdx.foldl (fun cs (p : Value × Nat) => cs.setIfInBounds (off + p.2) p.1) cells = splice cells off v.cells.toList := by
    have := foldl_splice v.cells.toList 0 off cells
    simp only [Nat.add_zero] at this
    rw [← this]
    rw [← Array.foldl_toList, Array.toList_zipIdx]
  rw [Instr.fill]
  simp only [hp]
  rw [if_neg (by simp only [decide_eq_true_eq, Bool.or_eq_true, ne_eq]; omega)]
  exact congrArg (fun z => Instr.fill place z rest) hf

theorem fill_ok (h : Rel X σ β s a w) {place : Nat → Option (Nat × Nat)} : ∀ (parts : List (Nat × Operand)) (ps : List (Nat × Nat × Opd)) (l : List (Nat × Nat × List A)) (cs0 cs : List A) (arr0 : Array Value),
    cParts place parts = some ps → evCells s ps = some l → fillA cs0 l = some cs → arr0.size = cs0.length → (∀ j x, cs0[j]? = some x → RA σ β x (arr0.getD j undef)) →
    ∃ arr, Instr.fill place arr0 (parts.map fun p => (p.1, a.eval p.2)) = some arr ∧ arr.size = cs.length ∧ ∀ j x, cs[j]? = some x → RA σ β x (arr.getD j undef) := by
  intro parts
  induction parts with
  | nil =>
    intro ps l cs0 cs arr0 hc he hf hsz hr
    simp only [cParts, Option.some.injEq] at hc
    subst hc
    simp only [evCells, Option.some.injEq] at he
    subst he
    simp only [fillA, Option.some.injEq] at hf
    subst hf
    exact ⟨arr0, by simp [Instr.fill], hsz, hr⟩
  | cons p r ih =>
    intro ps l cs0 cs arr0 hc he hf hsz hr
    obtain ⟨i, x⟩ := p
    simp only [cParts] at hc
    split at hc
    · rename_i y o c l' hy hpl hl'
      simp only [Option.some.injEq] at hc
      subst hc
      simp only [evCells] at he
      split at he
      · rename_i xs l2 hxs hl2
        simp only [Option.some.injEq] at he
        subst he
        simp only [fillA] at hf
        cases hb : (xs.length == c) && Nat.ble (o + xs.length) cs0.length with
        | false => rw [hb] at hf; simp at hf
        | true =>
          rw [hb] at hf
          simp only [cond_true] at hf
          simp only [Bool.and_eq_true, beq_iff_eq, Nat.ble_eq] at hb
          obtain ⟨c1, c2⟩ := cells_of_ra (ev_ok h hy) hxs
          rw [List.map_cons]
          rw [fill_step place arr0 i (a.eval x) _ hpl (by omega) (by omega)]
          refine ih _ _ _ cs (splice arr0 o (a.eval x).cells.toList) hl' hl2 hf (by rw [size_splice, lay_len]; exact hsz) ?_
          intro j z hz
          rw [lay_get _ _ _ _ hb.2] at hz
          have hvl : (a.eval x).cells.toList.length = xs.length := by simpa using c1
          rw [Array.getD_eq_getD_getElem?, getElem?_splice _ _ _ _ (by rw [hvl]; omega), hvl]
          by_cases hj : o ≤ j ∧ j < o + xs.length
          · rw [if_pos hj] at hz ⊢
            have := c2 _ _ hz
            rw [Array.getD_eq_getD_getElem?] at this
            rw [Array.getElem?_toList]
            exact this
          · rw [if_neg hj] at hz ⊢
            have := hr j z hz
            rw [Array.getD_eq_getD_getElem?] at this
            exact this
      · cases he
    · cases hc

theorem zeroT_info {t : TypeId} {l : List (D × Option Nat)} (h : zeroT P t = some l) : ∃ i z, P.info? t = some i ∧ i.zero = some z ∧ z.cells.size = l.length ∧ ∀ j x, l[j]? = some x → zeroFits x.1 (z.cells.getD j undef) = true := by
  unfold zeroT at h
  cases hi : P.info? t with
  | none => rw [hi] at h; cases h
  | some i =>
    rw [hi] at h
    simp only [Option.bind_eq_bind, Option.bind_some] at h
    cases hz : i.zero with
    | none => rw [hz] at h; cases h
    | some z =>
      rw [hz] at h
      simp only [Option.bind_some] at h
      cases hl : zeroOf P 8 t with
      | none => rw [hl] at h; cases h
      | some l' =>
        rw [hl] at h
        simp only [Option.bind_some] at h
        split at h
        · rename_i hf
          cases h
          obtain ⟨f1, f2⟩ := zeroFitsAll_spec _ _ hf
          refine ⟨i, z, rfl, hz, by simpa using f1.symm, ?_⟩
          intro j x hx
          have hlt : j < z.cells.size := by
            have := (List.getElem?_eq_some_iff.1 hx).1
            simp only [List.length_map, Array.length_toList] at f1
            omega
          refine f2 j x.1 _ (by simp [hx]) ?_
          rw [Array.getElem?_toList]
          exact getElem?_of_getD hlt
        · cases h

theorem zero_ra {fl : Bool} {l : List (D × Option Nat)} {z : Value} (hf : ∀ j x, l[j]? = some x → zeroFits x.1 (z.cells.getD j undef) = true) :
    ∀ j (x : A), (l.map (zA fl))[j]? = some x → RA σ β x (z.cells.getD j undef) := by
  intro j x hx
  rw [List.getElem?_map] at hx
  cases hq : l[j]? with
  | none => rw [hq] at hx; cases hx
  | some p =>
    rw [hq] at hx
    simp only [Option.map_some, Option.some.injEq] at hx
    subst hx
    have hz := hf j p hq
    unfold zA
    split
    · rename_i c' c e1 e2
      rw [e1] at hz
      have : z.cells.getD j undef = .slice none 0 0 := by
        generalize z.cells.getD j undef = v at hz
        unfold zeroFits at hz
        split at hz <;> simp_all
      rw [this]; exact .nil c
    · exact .d _ _ (zeroFits_ra hz).1

theorem s_build (h : Rel X σ β s a w) (hd : ∀ i, o.dst = some i → i < s.n) {t : TypeId} {parts : Array (Nat × Operand)} {l : List (D × Option Nat)} {ps : List (Nat × Nat × Opd)} (ho : o.op = .build t parts) (hl : zeroT P t = some l)
    (ht : (∃ fs places, P.underlying t = some (.struct fs) ∧ fs.toList.mapM (fun f => (P.info? f.type).map fun i => (f.offset, i.size)) = some places ∧ cParts (places[·]?) parts.toList = some ps) ∨
      ∃ n e c, P.underlying t = some (.array n e) ∧ tySize P e = some c ∧ cParts (fun i => some (i * c, c)) parts.toList = some ps)
    {fl : Bool} (hv : vcOp (.build (l.map (zA fl)) ps) o.dst s K KP) : o.wp P a w (Nx X s.n s.k σ β w K) (Pn X s σ β w KP) := by
  simp only [vcOp] at hv
  split at hv
  · rename_i l2 hl2
    split at hv
    · rename_i cs hcs
      obtain ⟨it, z, hi, hz, hsz, hfit⟩ := zeroT_info hl
      have hbuilt : ∃ arr, P.built t (parts.map fun (i, x) => (i, a.eval x)).toList = some arr ∧ arr.size = cs.length ∧ ∀ j x, cs[j]? = some x → RA σ β x (arr.getD j undef) := by
        have hmap : (parts.map fun (i, x) => (i, a.eval x)).toList = parts.toList.map fun p => (p.1, a.eval p.2) := by simp
        rw [hmap]
        rcases ht with ⟨fs, places, hu, hpl, hps⟩ | ⟨n, e, c, hu, hc, hps⟩
        · obtain ⟨arr, h1, h2, h3⟩ := fill_ok h parts.toList ps l2 (l.map (zA fl)) cs z.cells hps hl2 hcs (by simpa using hsz) (zero_ra hfit)
          refine ⟨arr, ?_, h2, h3⟩
          simp only [Program.built, hi, hu, hz, hpl]
          simpa using h1
        · obtain ⟨arr, h1, h2, h3⟩ := fill_ok h parts.toList ps l2 (l.map (zA fl)) cs z.cells hps hl2 hcs (by simpa using hsz) (zero_ra hfit)
          refine ⟨arr, ?_, h2, h3⟩
          unfold tySize at hc
          cases hie : P.info? e with
          | none => rw [hie] at hc; cases hc
          | some ie =>
            rw [hie] at hc
            simp only [Option.map_some, Option.some.injEq] at hc
            simp only [Program.built, hi, hu, hz, hie, hc]
            exact h1
      obtain ⟨arr, h1, h2, h3⟩ := hbuilt
      refine fin h hd (.agg cs arr h2.symm h3) ?_ hv
      simp only [execOp, ho, Sem.run_bind, run_build w t _ arr h1, Result.andThen_ok, Sem.run_pure]
    · exact hv.elim
  · exact hv.elim

end
end Go.Vx

/- Soundness: slice literals, conversions, slice expressions. -/
namespace Go.Vx
set_option linter.unusedVariables false
set_option linter.unusedSimpArgs false
open Go

section
variable {P : Program} {o : Oper} {X : Ctx} {σ : Store} {β : Names} {s : St} {a : Act} {w : World} {K : St → Prop} {KP : D → Prop}

theorem replicate_get {α : Type} (z : List α) (hz : 0 < z.length) : ∀ (n j : Nat) (x : α), (List.replicate n z).flatten[j]? = some x → z[j % z.length]? = some x := by
  intro n
  induction n with
  | zero => intro j x h; simp at h
  | succ n ih =>
    intro j x h
    rw [List.replicate_succ, List.flatten_cons] at h
    by_cases hj : j < z.length
    · rw [List.getElem?_append_left hj] at h
      rw [Nat.mod_eq_of_lt hj]; exact h
    · rw [List.getElem?_append_right (by omega)] at h
      have := ih _ _ h
      rw [← this]
      congr 1
      rw [Nat.mod_eq_sub_mod (by omega)]

theorem s_bslc (h : Rel X σ β s a w) (hd : ∀ i, o.dst = some i → i < s.n) {t e : TypeId} {c n : Nat} {parts : Array (Nat × Operand)} {l : List (D × Option Nat)} {ps : List (Nat × Nat × Opd)} (ho : o.op = .buildSlice t n parts)
    (ht : P.underlying t = some (.slice e)) (hc : tySize P e = some c) (hc0 : c ≠ 0) (hn0 : n ≠ 0) (hn : ¬ n * c > 2 ^ 24) (hnm : n ≤ maxL) (hl : zeroT P e = some l) (hlc : l.length = c)
    (hps : cParts (fun i => some (i * c, c)) parts.toList = some ps)
    (hv : vcOp (.bslc c n (l.map (·.1)) ps) o.dst s K KP) : o.wp P a w (Nx X s.n s.k σ β w K) (Pn X s σ β w KP) := by
  simp only [vcOp] at hv
  split at hv
  · rename_i d l2 hdd hl2
    split at hv
    · rename_i cs hcs
      split at hv
      · rename_i ds hds
        split at hv
        case h_2 => exact hv.elim
        rename_i es hch
        obtain ⟨hes, hec, hel⟩ := chunk_spec hch
        have hK := hv
        obtain ⟨ie, z, hi, hz, hsz, hfit⟩ := zeroT_info hl
        have hcs' : ie.size = c := by
          unfold tySize at hc; rw [hi] at hc; simpa using hc
        have hzs : z.cells.size = c := by omega
        have hr0 : ∀ j (x : A), ((List.replicate n (l.map (·.1))).flatten.map A.d)[j]? = some x → RA σ β x (((Array.range (n * ie.size)).map (z.cells[· % z.cells.size]!)).getD j undef) := by
          intro j x hx
          rw [List.getElem?_map] at hx
          cases hq : (List.replicate n (l.map (·.1))).flatten[j]? with
          | none => rw [hq] at hx; cases hx
          | some y =>
            rw [hq] at hx
            simp only [Option.map_some, Option.some.injEq] at hx
            subst hx
            have hlen : (List.replicate n (l.map (·.1))).flatten.length = n * c := by simp [hlc]
            have hj : j < n * c := by rw [← hlen]; exact (List.getElem?_eq_some_iff.1 hq).1
            have hy := replicate_get (l.map (·.1)) (by simp; omega) n j y hq
            rw [List.getElem?_map] at hy
            simp only [List.length_map, hlc] at hy
            cases hp : l[j % c]? with
            | none => rw [hp] at hy; cases hy
            | some p =>
              rw [hp] at hy
              simp only [Option.map_some, Option.some.injEq] at hy
              subst hy
              have := hfit _ _ hp
              have hm : j % c < z.cells.size := by rw [hzs]; exact Nat.mod_lt _ (by omega)
              have e1 : ((Array.range (n * ie.size)).map (z.cells[· % z.cells.size]!)).getD j undef = z.cells.getD (j % c) undef := by
                rw [Array.getD_eq_getD_getElem?, Array.getElem?_map, Array.getElem?_range, if_pos (by rw [hcs']; exact hj)]
                simp only [Option.map_some, Option.getD_some, hzs]
                rw [getElem!_pos z.cells (j % c) hm, Array.getD_eq_getD_getElem?, Array.getElem?_eq_getElem hm]
                rfl
              rw [e1]
              exact .d _ _ (zeroFits_ra this).1
        obtain ⟨arr, f1, f2, f3⟩ := fill_ok h parts.toList ps l2 _ cs ((Array.range (n * ie.size)).map (z.cells[· % z.cells.size]!)) hps hl2 hcs (by simp [hcs', hlc]) hr0
        have hrun := run_buildSlice (P := P) w t e n (parts.map fun (i, x) => (i, a.eval x)) arr ie z ht hi hz (by rw [hcs']; exact hn) (by rw [hcs']; exact Nat.mul_ne_zero hn0 hc0) (by
          have : (parts.map fun (i, x) => (i, a.eval x)).toList = parts.toList.map fun p => (p.1, a.eval p.2) := by simp
          rw [this, hcs']
          rw [hcs'] at f1
          exact f1)
        have hcsd := toDs_spec cs ds hds
        have hlen : es.flatten.length = n * c := by rw [flatten_len es hec, hel]
        have hasz : arr.size = n * c := by
          rw [f2, hcsd, List.length_map, ← hes, hlen]
        obtain ⟨σ', hR, hS⟩ := newSlice_put (c := c) (cap := n) (es := es) (arr := arr) (T := e) (fz := (0, 0)) (w' := w.alloc (.cells arr e)) h (hd d hdd) (by rw [hel]; exact hnm) (by omega) hec (by omega)
          (fun j x hx => by
            have := f3 j (.d x) (by rw [hcsd, List.getElem?_map, ← hes, hx]; rfl)
            cases this with | d _ _ h => exact h) rfl (.inl rfl) rfl rfl rfl
        unfold Oper.wp
        have : (execOp a.eval o).run P w = .ok (.value (.slice (some ⟨w.heap.size, 0, none⟩) n n)) (w.alloc (.cells arr e)) := by
          simp only [execOp, ho, Sem.run_bind, hrun, Result.andThen_ok, Sem.run_pure]
        rw [this, Oper.upon_value, hdd]
        rw [hel] at hR
        exact ⟨_, σ', β, hK, rfl, rfl, hR, hS⟩
      · exact hv.elim
    · exact hv.elim
  · exact hv.elim

theorem s_bslc0 (h : Rel X σ β s a w) (hd : ∀ i, o.dst = some i → i < s.n) {t e : TypeId} {c : Nat} {parts : Array (Nat × Operand)} {zero : List D} (ho : o.op = .buildSlice t 0 parts)
    (ht : P.underlying t = some (.slice e)) (hc : tySize P e = some c) (hp : parts.toList = [])
    (hv : vcOp (.bslc c 0 zero []) o.dst s K KP) : o.wp P a w (Nx X s.n s.k σ β w K) (Pn X s σ β w KP) := by
  cases hdd : o.dst with
  | none => rw [hdd] at hv; simp [vcOp] at hv
  | some d =>
    rw [hdd] at hv
    have hK : K (s.setO d c (.d (.sl c []))) := by simpa [vcOp, evCells, fillA, toDs, chunk] using hv
    obtain ⟨ie, hi⟩ : ∃ ie, P.info? e = some ie := by
      unfold tySize at hc
      cases hq : P.info? e with
      | none => rw [hq] at hc; cases hc
      | some ie => exact ⟨ie, rfl⟩
    have hpe : parts = #[] := by cases parts; simpa using hp
    have hrun : (Instr.buildSlice t 0 (parts.map fun (i, x) => (i, a.eval x))).run P w = .ok (.slice (some ⟨w.heap.size, 0, none⟩) 0 0) (w.alloc (.cells #[] e)) := by
      subst hpe
      simp [Instr.buildSlice, run_underlying ht, sizeOf, typeInfo, hi, Instr.fill, newRow]
      have : (Array.range 0).map (fun _ => (default : Value)) = #[] := Array.eq_empty_of_size_eq_zero (by simp)
      rw [this]
    obtain ⟨σ', hR, hS⟩ := newSlice_put (c := c) (cap := 0) (es := []) (arr := #[]) (T := e) (fz := (0, 0)) (w' := w.alloc (.cells #[] e)) h (hd d hdd) (by simp) (by simp) (by simp) (by simp)
      (fun j x hx => by simp at hx) rfl (.inl rfl) rfl rfl rfl
    unfold Oper.wp
    have : (execOp a.eval o).run P w = .ok (.value (.slice (some ⟨w.heap.size, 0, none⟩) 0 0)) (w.alloc (.cells #[] e)) := by
      simp only [execOp, ho, Sem.run_bind, hrun, Result.andThen_ok, Sem.run_pure]
    rw [this, Oper.upon_value, hdd]
    exact ⟨_, σ', β, hK, rfl, rfl, hR, hS⟩

theorem s_bslf (h : Rel X σ β s a w) (hd : ∀ i, o.dst = some i → i < s.n) {t e : TypeId} {c n : Nat} {parts : Array (Nat × Operand)} {l : List (D × Option Nat)} {ps : List (Nat × Nat × Opd)} (ho : o.op = .buildSlice t n parts)
    (ht : P.underlying t = some (.slice e)) (hc : tySize P e = some c) (hc0 : c ≠ 0) (hn0 : n ≠ 0) (hn : ¬ n * c > 2 ^ 24) (hnm : n ≤ maxL) (hl : zeroT P e = some l) (hlc : l.length = c)
    (hps : cParts (fun i => some (i * c, c)) parts.toList = some ps)
    (hv : vcOp (.bslf c n (l.map (·.1)) ps) o.dst s K KP) : o.wp P a w (Nx X s.n s.k σ β w K) (Pn X s σ β w KP) := by
  simp only [vcOp] at hv
  split at hv
  · rename_i d l2 hdd hl2
    split at hv
    · rename_i cs hcs
      obtain ⟨hnone, hclen, hK⟩ := hv
      · skip
        obtain ⟨ie, z, hi, hz, hsz, hfit⟩ := zeroT_info hl
        have hcs' : ie.size = c := by
          unfold tySize at hc; rw [hi] at hc; simpa using hc
        have hzs : z.cells.size = c := by omega
        have hr0 : ∀ j (x : A), ((List.replicate n (l.map (·.1))).flatten.map A.d)[j]? = some x → RA σ β x (((Array.range (n * ie.size)).map (z.cells[· % z.cells.size]!)).getD j undef) := by
          intro j x hx
          rw [List.getElem?_map] at hx
          cases hq : (List.replicate n (l.map (·.1))).flatten[j]? with
          | none => rw [hq] at hx; cases hx
          | some y =>
            rw [hq] at hx
            simp only [Option.map_some, Option.some.injEq] at hx
            subst hx
            have hlen : (List.replicate n (l.map (·.1))).flatten.length = n * c := by simp [hlc]
            have hj : j < n * c := by rw [← hlen]; exact (List.getElem?_eq_some_iff.1 hq).1
            have hy := replicate_get (l.map (·.1)) (by simp; omega) n j y hq
            rw [List.getElem?_map] at hy
            simp only [List.length_map, hlc] at hy
            cases hp : l[j % c]? with
            | none => rw [hp] at hy; cases hy
            | some p =>
              rw [hp] at hy
              simp only [Option.map_some, Option.some.injEq] at hy
              subst hy
              have := hfit _ _ hp
              have hm : j % c < z.cells.size := by rw [hzs]; exact Nat.mod_lt _ (by omega)
              have e1 : ((Array.range (n * ie.size)).map (z.cells[· % z.cells.size]!)).getD j undef = z.cells.getD (j % c) undef := by
                rw [Array.getD_eq_getD_getElem?, Array.getElem?_map, Array.getElem?_range, if_pos (by rw [hcs']; exact hj)]
                simp only [Option.map_some, Option.getD_some, hzs]
                rw [getElem!_pos z.cells (j % c) hm, Array.getD_eq_getD_getElem?, Array.getElem?_eq_getElem hm]
                rfl
              rw [e1]
              exact .d _ _ (zeroFits_ra this).1
        obtain ⟨arr, f1, f2, f3⟩ := fill_ok h parts.toList ps l2 _ cs ((Array.range (n * ie.size)).map (z.cells[· % z.cells.size]!)) hps hl2 hcs (by simp [hcs', hlc]) hr0
        have hrun := run_buildSlice (P := P) w t e n (parts.map fun (i, x) => (i, a.eval x)) arr ie z ht hi hz (by rw [hcs']; exact hn) (by rw [hcs']; exact Nat.mul_ne_zero hn0 hc0) (by
          have : (parts.map fun (i, x) => (i, a.eval x)).toList = parts.toList.map fun p => (p.1, a.eval p.2) := by simp
          rw [this, hcs']
          rw [hcs'] at f1
          exact f1)
        have hasz : arr.size = n * c := by rw [f2, hclen]
        have hR := h.newBoxA (d := d) (m := s.k + d) (cs := cs) (arr := arr) (T := e) (y := .bsl (s.k + d) 0 n n) (u := .slice (some ⟨w.heap.size, 0, none⟩) n n) (hd d hdd) hnone f2 f3 (.bsl _ _ _ _ _ (by simp [updN]))
        have hS : Step X s.k σ β w σ (updN β (s.k + d) w.heap.size) (w.alloc (.cells arr e)) := Step.newBlock h (Nat.le_add_right _ _)
        unfold Oper.wp
        have : (execOp a.eval o).run P w = .ok (.value (.slice (some ⟨w.heap.size, 0, none⟩) n n)) (w.alloc (.cells arr e)) := by
          simp only [execOp, ho, Sem.run_bind, hrun, Result.andThen_ok, Sem.run_pure]
        rw [this, Oper.upon_value, hdd]
        exact ⟨_, σ, _, hK, rfl, rfl, hR, hS⟩
    · exact hv.elim
  · exact hv.elim

theorem run_appendCap (w : World) (n old : Nat) (e : TypeId) : ∃ cap w1, (choose (.appendCap n old e)).run P w = .ok cap w1 ∧ n ≤ cap ∧ (w1.heap = w.heap ∧ w1.os = w.os ∧ w1.tape = w.tape ∧ w1.output = w.output) := by
  refine ⟨(Question.appendCap n old e).cut (w.tape w.drawn (.appendCap n old e)), { w with drawn := w.drawn + 1 }, ?_, ?_, rfl, rfl, rfl, rfl⟩
  · rfl
  · simp [Question.cut]

theorem bytes_flat (b : List UInt8) : (b.map bc).flatten = b.map fun c => D.int .u8 c.toNat := by
  induction b with
  | nil => rfl
  | cons y r ih => simp only [List.map_cons, List.flatten_cons, ih, bc]; rfl

theorem s_cvb (h : Rel X σ β s a w) (hd : ∀ i, o.dst = some i → i < s.n) {src dst e : TypeId} {x : Operand} {x' : Opd} (ho : o.op = .convert src dst x) (hx : cOpd x = some x')
    (hs : P.underlying src = some .string) (ht : P.underlying dst = some (.slice e)) (he : P.underlying e = some (.int .u8)) (hv : vcOp (.cvb x') o.dst s K KP) :
    o.wp P a w (Nx X s.n s.k σ β w K) (Pn X s σ β w KP) := by
  simp only [vcOp] at hv
  have h1 := ev_ok h hx
  split at hv
  · rename_i d b hdd e1
    rw [e1] at h1
    obtain ⟨e3, hl⟩ := ra_str h1
    have hK := hv hl
    have hbs : (⟨b.toArray⟩ : ByteArray).size = b.length := by simp [ByteArray.size]
    obtain ⟨cap, w1, hch, hcap, hw1⟩ := run_appendCap (P := P) w b.length 0 e
    let arr : Array Value := (b.toArray.map fun c => Value.int .u8 c.toNat) ++ Array.replicate (cap - b.length) (.int .u8 0)
    have hsz : arr.size = cap := by simp [arr]; omega
    have hrun : (execOp a.eval o).run P w = .ok (.value (.slice (some ⟨w.heap.size, 0, none⟩) b.length cap)) ((w1.alloc (.cells arr e)).freeze ⟨w.heap.size, arr.size, none⟩ 1) := by
      simp only [execOp, ho, e3, convert, Sem.run_bind, run_underlying hs, run_underlying ht, run_underlying he, Result.andThen_ok, Conv.stringToBytes, hbs, hch, newRow, run_newObj, Sem.run_pure]
      simp only [markStringish, Sem.run_bind, run_shape, Result.andThen_ok]
      have hshape : ({ w1 with heap := w1.heap.push (.cells arr e) } : World).shape? w1.heap.size = some (e, arr.size) := by
        simp [World.shape?]
      have harr : (b.toArray.map (fun b => Value.int .u8 b.toNat) ++ Array.replicate (cap - b.length) (.int .u8 0)) = arr := rfl
      rw [harr, hshape]
      simp only [run_freeze, Result.andThen_ok, World.alloc, hw1.1]
    obtain ⟨σ', hR, hS⟩ := newSlice_put (c := 1) (cap := cap) (es := b.map bc) (arr := arr) (T := e) (fz := (arr.size, arr.size + 1)) (w' := (w1.alloc (.cells arr e)).freeze ⟨w.heap.size, arr.size, none⟩ 1) h (hd d hdd) (by simpa using hl) (by simpa using hcap)
      (fun e he => by rw [List.mem_map] at he; obtain ⟨y, _, rfl⟩ := he; rfl) (by omega)
      (fun j x hx => by
        rw [bytes_flat, List.getElem?_map] at hx
        cases hq : b[j]? with
        | none => rw [hq] at hx; cases hx
        | some y =>
          rw [hq] at hx
          simp only [Option.map_some, Option.some.injEq] at hx
          subst hx
          have hj := (List.getElem?_eq_some_iff.1 hq).1
          have : arr.getD j undef = .int .u8 y.toNat := by
            rw [Array.getD_eq_getD_getElem?]
            simp only [arr]
            rw [Array.getElem?_append_left (by simpa using hj)]
            simp [hq]
          rw [this]; exact .int _ _)
      (by
        simp only [World.freeze, World.alloc, hw1.1]
        rw [if_neg (by decide)]
        simp only
        apply Array.ext_getElem?
        intro i
        rw [Array.getElem?_modify, Array.getElem?_push]
        by_cases hi : i = w.heap.size
        · subst hi; simp
        · rw [if_neg (fun e => hi e.symm), if_neg hi, Array.getElem?_push, if_neg hi])
      (.inr (Nat.le_refl _))
      (by simp [World.freeze, World.alloc, hw1.2.1]) (by simp [World.freeze, World.alloc, hw1.2.2.1]) (by simp [World.freeze, World.alloc, hw1.2.2.2])
    unfold Oper.wp
    rw [hrun, Oper.upon_value, hdd]
    simp only [List.length_map] at hR
    exact ⟨_, σ', β, hK, rfl, rfl, hR, hS⟩
  · exact hv.elim

theorem s_cvs (h : Rel X σ β s a w) (hd : ∀ i, o.dst = some i → i < s.n) {src dst e : TypeId} {x : Operand} {x' : Opd} (ho : o.op = .convert src dst x) (hx : cOpd x = some x')
    (hs : P.underlying src = some (.slice e)) (he : P.underlying e = some (.int .u8)) (ht : P.underlying dst = some .string) (hv : vcOp (.cvs x') o.dst s K KP) :
    o.wp P a w (Nx X s.n s.k σ β w K) (Pn X s σ β w KP) := by
  simp only [vcOp] at hv
  have h1 := ev_ok h hx
  split at hv
  · rename_i c es e1
    rw [e1] at h1
    obtain ⟨hc, hv⟩ := hv
    obtain ⟨hl, hsl⟩ := ra_sl (reads_sl_c hc h1)
    obtain ⟨bs, hbs, hK⟩ := hv hl
    have hstr : Reads σ (.str bs) (.string ⟨bs.toArray⟩) := .str bs (by rw [hbs] at hl; simpa using hl)
    rcases hsl with ⟨e5, base, e6⟩ | ⟨b, off, cap, f, e3, hcap, hlen, hss, hr⟩
    · subst e5
      have : bs = [] := by
        cases bs with
        | nil => rfl
        | cons y r => simp at hbs
      subst this
      refine fin h hd (.d _ _ hstr) ?_ hK
      have hz : (convert src dst (.slice base 0 0)).run P w = .ok (.string ByteArray.empty) w := by
        cases base with
        | none => exact run_convert_bytes_nil w src e hs he 0 0 dst ht
        | some ad =>
          have hlc : (loadCells ad 0).run P w = .ok #[] w := run_loadCells_list (P := P) w ad [] (fun j v hj => by simp at hj)
          rw [run_convert_bytes_string w src dst e _ 0 0 hs he ht]
          simp [Conv.bytesToString, hlc]
      simp only [execOp, ho, e6, Sem.run_bind, hz, Result.andThen_ok, Sem.run_pure]
      rfl
    · have hcell : ∀ i, i < es.length → w.cell? ⟨b, off + i, none⟩ = some (.int .u8 ((bs.map fun c => (c.toNat : Int)).getD i 0)) := by
        intro i hi
        have hbl : bs.length = es.length := by rw [hbs]; simp
        have hib : i < bs.length := by omega
        have he' : es[i]? = some (bc (bs[i]'hib)) := by
          have : (bs.map bc)[i]? = some (bc (bs[i]'hib)) := by rw [List.getElem?_map, List.getElem?_eq_getElem hib]; rfl
          rw [← hbs] at this; exact this
        have h5 := hss i _ he' 0 _ rfl
        have h6 := hr i _ he' 0 _ rfl
        have h7 := h.st _ _ _ h5
        cases hq : f i 0 with
        | int k n =>
          rw [hq] at h6 h7
          cases h6
          have e7 : off + i * 1 + 0 = off + i := by omega
          rw [e7] at h7
          rw [h7]
          congr 2
          rw [List.getD_eq_getElem?_getD, List.getElem?_map, List.getElem?_eq_getElem (by omega)]
          rfl
        | _ => rw [hq] at h6; cases h6
      have hrun := run_convert_bytes_arg (P := P) w src e hs he b off es.length cap (bs.map fun c => (c.toNat : Int)) (by rw [hbs]; simp) hcell dst ht
      have hso : strOfNums (bs.map fun c => (c.toNat : Int)) = ⟨bs.toArray⟩ := by
        apply ByteArray.ext
        apply Array.ext'
        rw [strOfNums_data]
        rw [List.map_map]
        simp only []
        conv => rhs; rw [← List.map_id bs]
        apply List.map_congr_left
        intro y _
        simp
      rw [hso] at hrun
      refine fin h hd (.d _ _ hstr) ?_ hK
      simp only [execOp, ho, e3, Sem.run_bind, hrun, Result.andThen_ok, Sem.run_pure]
  · exact hv.elim

theorem s_cvl (h : Rel X σ β s a w) (hd : ∀ i, o.dst = some i → i < s.n) {src e : TypeId} {x : Operand} {x' : Opd} (ho : o.op = .convert src src x) (hx : cOpd x = some x')
    (hs : P.underlying src = some (.slice e)) (he : P.underlying e = some (.int .u8)) (hv : vcOp (.cvl x') o.dst s K KP) :
    o.wp P a w (Nx X s.n s.k σ β w K) (Pn X s σ β w KP) := by
  simp only [vcOp] at hv
  have h1 := ev_ok h hx
  split at hv
  · rename_i i d m len cap hdd e1
    rw [e1] at h1
    split at hv
    · rename_i cs hcs
      split at hv
      · rename_i ds hds
        obtain ⟨⟨rfl, hlen, hmax, hk⟩, hK⟩ := hv
        have hcd := toDs_spec cs ds hds
        subst hcd
        obtain ⟨b, arr, T, fz, hb, hh, hsz, hr, hX, hσ, hf⟩ := h.box m _ hcs
        obtain ⟨v, hve, hvv⟩ : ∃ v, a.eval x = v ∧ v = .slice (some ⟨b, 0, none⟩) len len := by
          refine ⟨a.eval x, rfl, ?_⟩
          generalize a.eval x = q at h1
          cases h1 with | bsl _ _ _ _ b' hb' => rw [hb] at hb'; cases hb'; rfl
        have hrun : (execOp a.eval o).run P w = .ok (.value v) (markW w b) := by
          simp only [execOp, ho, hve, hvv, convert, Sem.run_bind, run_underlying hs, run_underlying he, Result.andThen_ok, beq_self_eq_true, markStringish, run_shape, markW]
          cases w.shape? b with
          | none => simp only [Sem.run_pure, Result.andThen_ok]
          | some p => simp only [run_freeze, Sem.run_pure, Result.andThen_ok]
        obtain ⟨_, _, hw⟩ := weak_frzC (n := s.n) (k := s.k) (t := s.t) (bx := s.bx) (own := s.own) m ds hcs hk
        obtain ⟨σ', β', hR, hS, hC⟩ := hw X σ β a (markW w b) (h.mark b)
        have h2 := hC _ _ (by rw [hve] at h1; exact h1)
        have h3 : Reads σ' (.sl 1 (ds.map fun x => [x])) v := by
          rw [frzA_bsl'] at h2
          rw [if_pos rfl, if_pos ⟨Nat.le_refl _, hmax, by omega⟩, List.drop_zero, List.take_of_length_le (by omega)] at h2
          cases h2 with | d _ _ h => exact h
        unfold Oper.wp
        rw [hrun, Oper.upon_value, hdd]
        exact ⟨_, σ', β', hK, rfl, rfl, hR.put (hd d hdd) (.ful _ _ _ h3 (fun a' l' c' e => by rw [hvv] at e; cases e; exact Nat.le_refl _)), (Step.mark X s.k σ β w b hX).trans hS⟩
      · exact hv.elim
    · exact hv.elim
  · exact hv.elim

end
end Go.Vx

/- Soundness: slice expressions, arrays out of slices, appends, copies. -/
namespace Go.Vx
set_option linter.unusedVariables false
set_option linter.unusedSimpArgs false
open Go

section
variable {P : Program} {o : Oper} {X : Ctx} {σ : Store} {β : Names} {s : St} {a : Act} {w : World} {K : St → Prop} {KP : D → Prop}

theorem bounds_run (h : Rel X σ β s a w) {isS : Bool} {len cap : Nat} (hcap : len ≤ cap) {lo hi : Option Operand} {lo' hi' : Option Opd} (hlo : cOpt lo = some lo') (hhi : cOpt hi = some hi')
    {KK : Nat → Nat → Prop} (hv : vcBounds s len lo' hi' KK) :
    ∃ l hh, KK l hh ∧ l ≤ hh ∧ hh ≤ len ∧ (hi' = none → hh = len) ∧ (Instr.sliceBounds isS len cap (lo.map a.eval) (hi.map a.eval) none).run P w = .ok (l, hh, cap) w := by
  have ev : ∀ {y : Operand} {y' : Opd} {k : IntKind} {n : Int}, cOpd y = some y' → s.ev y' = .d (.int k n) → a.eval y = .int k n := by
    intro y y' k n h1 h2
    have := ev_ok h h1
    rw [h2] at this
    exact ra_int this
  cases lo with
  | none =>
    simp only [cOpt, Option.some.injEq] at hlo
    subst hlo
    cases hi with
    | none =>
      simp only [cOpt, Option.some.injEq] at hhi
      subst hhi
      exact ⟨0, len, hv, Nat.zero_le _, Nat.le_refl _, fun _ => rfl, by simp [Instr.sliceBounds]⟩
    | some y =>
      simp only [cOpt] at hhi
      cases hy : cOpd y with
      | none => rw [hy] at hhi; cases hhi
      | some y' =>
        rw [hy] at hhi
        simp only [Option.map_some, Option.some.injEq] at hhi
        subst hhi
        simp only [vcBounds] at hv
        split at hv
        · rename_i k b e
          refine ⟨0, b.toNat, hv.2, Nat.zero_le _, by omega, by simp, ?_⟩
          simp only [Option.map_some, Option.map_none, ev hy e, Instr.sliceBounds, Sem.run_bind, Sem.run_pure, Result.andThen_ok]
          rw [run_sliceBound _ k b cap _ hv.1.1 (by omega)]
          simp
        · exact hv.elim
  | some x =>
    simp only [cOpt] at hlo
    cases hx : cOpd x with
    | none => rw [hx] at hlo; cases hlo
    | some x' =>
      rw [hx] at hlo
      simp only [Option.map_some, Option.some.injEq] at hlo
      subst hlo
      cases hi with
      | none =>
        simp only [cOpt, Option.some.injEq] at hhi
        subst hhi
        simp only [vcBounds] at hv
        split at hv
        · rename_i k b e
          refine ⟨b.toNat, len, hv.2, by omega, Nat.le_refl _, fun _ => rfl, ?_⟩
          simp only [Option.map_some, Option.map_none, ev hx e, Instr.sliceBounds, Sem.run_bind, Sem.run_pure, Result.andThen_ok]
          rw [run_sliceBound _ k b len _ hv.1.1 (by omega)]
          simp
        · exact hv.elim
      | some y =>
        simp only [cOpt] at hhi
        cases hy : cOpd y with
        | none => rw [hy] at hhi; cases hhi
        | some y' =>
          rw [hy] at hhi
          simp only [Option.map_some, Option.some.injEq] at hhi
          subst hhi
          simp only [vcBounds] at hv
          split at hv
          · rename_i k b k2 b2 e e2
            refine ⟨b.toNat, b2.toNat, hv.2, by omega, by omega, by simp, ?_⟩
            simp only [Option.map_some, ev hx e, ev hy e2, Instr.sliceBounds, Sem.run_bind, Sem.run_pure, Result.andThen_ok]
            rw [run_sliceBound _ k2 b2 cap _ (by omega) (by omega)]
            simp only [Result.andThen_ok]
            rw [run_sliceBound _ k b b2.toNat _ (by omega) (by omega)]
            simp
          · exact hv.elim

/-- A piece of a slice. -/
theorem piece {c l hh : Nat} {es : List (List D)} {b off cap : Nat} {f : Nat → Nat → Value} (hle : l ≤ hh) (hhl : hh ≤ es.length) (hl : es.length ≤ maxL) (hcap : es.length ≤ cap) (hc : ∀ e, e ∈ es → e.length = c)
    (hs : ∀ i e, es[i]? = some e → ∀ j x, e[j]? = some x → σ b (off + i * c + j) = some (f i j)) (hr : ∀ i e, es[i]? = some e → ∀ j x, e[j]? = some x → Reads σ x (f i j)) :
    Reads σ (.sl c ((es.take hh).drop l)) (.slice (some ⟨b, if cap = l then off else off + l * c, none⟩) (hh - l) (cap - l)) := by
  have hlen : ((es.take hh).drop l).length = hh - l := by simp; omega
  rw [← hlen]
  by_cases hcl : cap = l
  · have : (es.take hh).drop l = [] := by apply List.eq_nil_of_length_eq_zero; omega
    rw [this]
    exact .sl c [] b _ _ f (by simp) (by simp) (by simp) (by simp) (by simp)
  · rw [if_neg hcl]
    have key : ∀ i e, ((es.take hh).drop l)[i]? = some e → es[l + i]? = some e := by
      intro i e he
      rw [List.getElem?_drop, List.getElem?_take] at he
      split at he
      · exact he
      · cases he
    refine .sl c _ b (off + l * c) _ (fun i j => f (l + i) j) (by omega) (by omega) ?_ ?_ ?_
    · intro e he
      exact hc e (List.mem_of_mem_take (List.mem_of_mem_drop he))
    · intro i e he j x hx
      have := hs _ _ (key i e he) j x hx
      rw [← this]
      congr 1
      rw [Nat.add_mul]; omega
    · intro i e he j x hx
      exact hr _ _ (key i e he) j x hx

theorem ownB_full {base : Option Addr} {len cap : Nat} (h : cap ≤ len) : ownB (.slice base len cap) = none := by
  unfold ownB
  split
  · rename_i e
    injection e with _ e2 e3
    rw [if_neg (by omega)]
  · rfl

/-- Ownership goes to a temporary that is written with a value of the same block. -/
theorem Rel.retarget (h : Rel X σ β s a w) {d i c : Nat} {x : A} {u : Value} (hd : d < s.n) (hm : (Loc.t i, c) ∈ s.own) (hx : RA σ β x u) (hu : OwnV X σ β w c u)
    (hb : ∀ b, ownB u = some b → ownB (a.tmps.getD i undef) = some b) :
    Rel X σ β { s with t := (d, x) :: s.t, own := (.t d, c) :: dropOt i (dropOt d s.own) } (a.put (some d) u) w := by
  have hd' : d < a.tmps.size := h.size ▸ hd
  have h1 := (h.sub (s' := { s with own := dropOt i (dropOt d s.own) }) rfl rfl (fun _ => .inr rfl) (fun p hp => (mem_dropOt (l := p.1) (c := p.2) (mem_dropOt (l := p.1) (c := p.2) hp).1).1)).put hd hx
  have h2 : Rel X σ β { s with t := (d, x) :: s.t, own := dropOt i (dropOt d s.own) } (a.put (some d) u) w := by
    refine h1.sub rfl rfl (fun _ => .inr rfl) (fun p hp => ?_)
    obtain ⟨p1, p2⟩ := p
    exact mem_dropOt_of hp (mem_dropOt (mem_dropOt hp).1).2
  refine Rel.addOwn (s := { s with t := (d, x) :: s.t, own := dropOt i (dropOt d s.own) }) h2 (v := u) ?_ hu ?_
  · simp only [locVal, Act.put]
    rw [getD_set _ _ _ _ hd', if_pos rfl]
  · intro l' c' v' b hl' hne hv' hb' e
    obtain ⟨q1, q2⟩ := mem_dropOt hl'
    obtain ⟨q3, q4⟩ := mem_dropOt q1
    have hv0 : locVal β a w l' = some v' := by
      cases l' with
      | t j =>
        simp only [locVal, Act.put] at hv'
        rw [getD_set _ _ _ _ hd', if_neg (fun e => q4 (by rw [e]))] at hv'
        exact hv'
      | b n o => exact hv'
    exact h.sep l' c' (.t i) c q3 hm q2 v' _ b hv0 rfl hb' (hb b e)

theorem s_slc (h : Rel X σ β s a w) (hd : ∀ i, o.dst = some i → i < s.n) {t e : TypeId} {c : Nat} {tr : Bool} {x : Operand} {x' : Opd} {lo hi : Option Operand} {lo' hi' : Option Opd} (ho : o.op = .slice t x lo hi none) (hx : cOpd x = some x')
    (hlo : cOpt lo = some lo') (hhi : cOpt hi = some hi') (ht : P.underlying t = some (.slice e)) (hc : tySize P e = some c) (hv : vcOp (.slc c x' lo' hi' tr) o.dst s K KP) :
    o.wp P a w (Nx X s.n s.k σ β w K) (Pn X s σ β w KP) := by
  simp only [vcOp] at hv
  have h1 := ev_ok h hx
  split at hv
  · rename_i c' es e1
    rw [e1] at h1
    obtain ⟨hcc, hv⟩ := hv
    obtain ⟨hl, hsl⟩ := ra_sl (reads_sl_c hcc h1)
    have hv := hv hl
    -- the value, the bounds
    obtain ⟨base, cap, hval, hcap, hnil⟩ : ∃ base cap, a.eval x = .slice base es.length cap ∧ es.length ≤ cap ∧ (base = none → cap = 0 ∧ es = []) := by
      rcases hsl with ⟨e5, base, e6⟩ | ⟨b, off, cap, f, e3, hcap, _⟩
      · subst e5; exact ⟨base, 0, e6, by simp, fun _ => ⟨rfl, rfl⟩⟩
      · exact ⟨_, cap, e3, hcap, by simp⟩
    obtain ⟨l, hh, hK, hle, hhl, hnn, hb⟩ := bounds_run (P := P) (isS := true) (cap := cap) h hcap hlo hhi hv
    have hrun : (execOp a.eval o).run P w = .ok (.value (.slice (if cap = l then base else base.map (·.add (l * c))) (hh - l) (cap - l))) w := by
      simp only [execOp, ho, hval, Instr.sliceAt, Sem.run_bind, run_underlying ht, Result.andThen_ok, Instr.slice]
      simp only [Option.map_none, hb, Result.andThen_ok, run_size hc, Sem.run_pure]
    have hread : Reads σ (.sl c ((es.take hh).drop l)) (.slice (if cap = l then base else base.map (·.add (l * c))) (hh - l) (cap - l)) := by
      rcases hsl with ⟨e5, base2, e6⟩ | ⟨b, off, cap2, f, e3, hcap2, hlen, hs, hr⟩
      · subst e5
        rw [e6] at hval
        cases hval
        simp only [List.length_nil, Nat.le_zero] at hhl
        subst hhl
        simp only [Nat.le_zero] at hle
        subst hle
        simp only [if_true]
        exact reads_sl0 _
      · rw [e3] at hval
        cases hval
        have := piece (σ := σ) hle hhl hl hcap2 hlen hs hr
        by_cases hcl : cap = l
        · rw [if_pos hcl] at this ⊢; exact this
        · rw [if_neg hcl] at this ⊢
          simpa [Addr.add_lit] using this
    split at hK
    · rename_i i d hdd _
      cases x with
      | tmp tv =>
        simp only [cOpd, Option.some.injEq, Opd.t.injEq] at hx
        subst hx
        split at hK
        · rename_i oc hoc
          obtain ⟨rfl, hK⟩ := hK
          unfold Oper.wp
          rw [hrun, Oper.upon_value, hdd]
          refine ⟨_, σ, β, hK, rfl, rfl, ?_, Step.refl _ _ _ _ _⟩
          have hd1 := hd d hdd
          have hd' : d < a.tmps.size := h.size ▸ hd1
          have hh' : hh = es.length := hnn rfl
          subst hh'
          have hm := mem_take_own hoc
          obtain ⟨v0, hv0, hov⟩ := h.own _ _ hm
          simp only [locVal, Option.some.injEq] at hv0
          have hev : a.tmps.getD tv undef = .slice base es.length cap := hval
          rw [hev] at hv0
          subst hv0
          rw [List.take_length] at hread
          refine h.retarget hd1 hm (.d _ _ hread) ?_ ?_
          · intro b off len cap3 e hlt
            cases base with
            | none => split at e <;> simp at e
            | some ad =>
              obtain ⟨bb, oo, sp⟩ := ad
              injection e with e1 e2 e3
              subst e2; subst e3
              have hcl : ¬ cap = l := by omega
              rw [if_neg hcl] at e1
              simp only [Option.map_some, Option.some.injEq] at e1
              cases sp with
              | some sp =>
                rcases hsl with ⟨e5, _, e6⟩ | ⟨_, _, _, _, e3, _⟩
                · rw [e6] at hval
                  have g2 : 0 = es.length := by injection hval
                  have g3 : 0 = cap := by injection hval
                  omega
                · rw [e3] at hval; cases hval
              | none =>
                rw [Addr.add_lit] at e1
                injection e1 with e4 e5 _
                subst e4; subst e5
                obtain ⟨⟨arr, T, fz, q1, q2, q3⟩, q4, q5, q6⟩ := hov bb oo es.length cap rfl (by omega)
                refine ⟨⟨arr, T, fz, q1, ?_, q3⟩, ?_, q5, q6⟩
                · have : l * oc + (cap - l) * oc = cap * oc := by rw [← Nat.add_mul]; congr 1; omega
                  omega
                · intro o' ho'
                  apply q4
                  have : l * oc + (es.length - l) * oc = es.length * oc := by rw [← Nat.add_mul]; congr 1; omega
                  omega
          · intro b e
            rw [hev]
            cases base with
            | none => split at e <;> simp [ownB] at e
            | some ad =>
              obtain ⟨bb, oo, sp⟩ := ad
              cases sp with
              | some sp =>
                rcases hsl with ⟨e5, _, e6⟩ | ⟨_, _, _, _, e3, _⟩
                · rw [e6] at hval
                  have g3 : 0 = cap := by injection hval
                  rw [ownB_full (by omega)] at e; cases e
                · rw [e3] at hval; cases hval
              | none =>
                by_cases hcl : cap = l
                · rw [if_pos hcl] at e
                  simp only [ownB] at e
                  split at e
                  · omega
                  · cases e
                · rw [if_neg hcl] at e
                  simp only [Option.map_some, Addr.add_lit, ownB] at e ⊢
                  split at e
                  · rw [if_pos (by omega)]; exact e
                  · cases e
        · exact fin h hd (.d _ _ hread) hrun (by rw [hdd]; exact hK)
      | const v => simp only [cOpd] at hx; cases hq : aOf v <;> rw [hq] at hx <;> simp at hx
      | func f => simp [cOpd] at hx
      | global g => simp [cOpd] at hx
    · exact fin h hd (.d _ _ hread) hrun hK
  · rename_i n off len cap e1
    rw [e1] at h1
    obtain ⟨b, hb, e3⟩ := ra_bsl h1
    obtain ⟨hcap, hv⟩ := hv
    obtain ⟨l, hh, hK, hle, hhl, hnn, hbr⟩ := bounds_run (P := P) (isS := true) (cap := cap) h hcap hlo hhi hv
    refine fin h hd (.bsl n _ _ _ b hb) ?_ hK.2
    have : ¬ cap = l := by omega
    simp only [execOp, ho, e3, Instr.sliceAt, Sem.run_bind, run_underlying ht, Result.andThen_ok, Instr.slice]
    simp only [Option.map_none, hbr, Result.andThen_ok, run_size hc, Sem.run_pure, if_neg this, Option.map_some, Addr.add_lit]
  · exact hv.elim

end
end Go.Vx

/- Soundness: more slice expressions, appends, copies. -/
namespace Go.Vx
set_option linter.unusedVariables false
set_option linter.unusedSimpArgs false
open Go

section
variable {P : Program} {o : Oper} {X : Ctx} {σ : Store} {β : Names} {s : St} {a : Act} {w : World} {K : St → Prop} {KP : D → Prop}

theorem s_sla (h : Rel X σ β s a w) (hd : ∀ i, o.dst = some i → i < s.n) {t e : TypeId} {n c : Nat} {x : Operand} {x' : Opd} {lo hi : Option Operand} {lo' hi' : Option Opd} (ho : o.op = .slice t x lo hi none) (hx : cOpd x = some x')
    (hlo : cOpt lo = some lo') (hhi : cOpt hi = some hi') (ht : P.underlying t = some (.array n e)) (hc : tySize P e = some c) (hv : vcOp (.sla n c x' lo' hi') o.dst s K KP) :
    o.wp P a w (Nx X s.n s.k σ β w K) (Pn X s σ β w KP) := by
  simp only [vcOp] at hv
  have h1 := ev_ok h hx
  split at hv
  · rename_i m off e1
    rw [e1] at h1
    obtain ⟨b, hb, e3⟩ := ra_ptr h1
    obtain ⟨l, hh, hK, hle, hhl, hnn, hbr⟩ := bounds_run (P := P) (isS := false) (cap := n) h (Nat.le_refl _) hlo hhi hv
    refine fin h hd (.bsl m _ _ _ b hb) ?_ hK.2
    have : ¬ n = l := by omega
    simp only [execOp, ho, e3, Instr.sliceAt, Sem.run_bind, run_underlying ht, Result.andThen_ok, Instr.sureAddr, Sem.run_pure]
    simp only [Option.map_none, hbr, Result.andThen_ok, run_size hc, Sem.run_pure, if_neg this, Addr.add_lit]
  · exact hv.elim

theorem extract_bytes (b : List UInt8) (l hh : Nat) : (⟨b.toArray⟩ : ByteArray).extract l hh = ⟨((b.take hh).drop l).toArray⟩ := by
  apply ByteArray.ext
  rw [ByteArray.data_extract]
  apply Array.ext'
  simp [List.drop_take]

theorem s_sls (h : Rel X σ β s a w) (hd : ∀ i, o.dst = some i → i < s.n) {t : TypeId} {x : Operand} {x' : Opd} {lo hi : Option Operand} {lo' hi' : Option Opd} (ho : o.op = .slice t x lo hi none) (hx : cOpd x = some x')
    (hlo : cOpt lo = some lo') (hhi : cOpt hi = some hi') (ht : P.underlying t = some .string) (hv : vcOp (.sls x' lo' hi') o.dst s K KP) :
    o.wp P a w (Nx X s.n s.k σ β w K) (Pn X s σ β w KP) := by
  simp only [vcOp] at hv
  have h1 := ev_ok h hx
  split at hv
  · rename_i b e1
    rw [e1] at h1
    obtain ⟨e3, hl⟩ := ra_str h1
    obtain ⟨l, hh, hK, hle, hhl, hnn, hbr⟩ := bounds_run (P := P) (isS := false) (cap := b.length) h (Nat.le_refl _) hlo hhi (hv hl)
    have hbs : (⟨b.toArray⟩ : ByteArray).size = b.length := by simp [ByteArray.size]
    refine fin h hd (.d _ _ (.str _ (by simp; omega))) ?_ hK
    simp only [execOp, ho, e3, Instr.sliceAt, Sem.run_bind, run_underlying ht, Result.andThen_ok, Instr.slice]
    simp only [Option.map_none, hbs, Option.isSome_none, Bool.false_eq_true, if_false, Sem.run_bind, hbr, Result.andThen_ok, Sem.run_pure, extract_bytes]
  · exact hv.elim

theorem s_slc3 (h : Rel X σ β s a w) (hd : ∀ i, o.dst = some i → i < s.n) {t e : TypeId} {c : Nat} {x hi mx : Operand} {x' hi' mx' : Opd} {lo : Option Operand} {lo' : Option Opd} (ho : o.op = .slice t x lo (some hi) (some mx)) (hx : cOpd x = some x')
    (hlo : cOpt lo = some lo') (hhi : cOpd hi = some hi') (hmx : cOpd mx = some mx') (ht : P.underlying t = some (.slice e)) (hc : tySize P e = some c) (hv : vcOp (.slc3 c x' lo' hi' mx') o.dst s K KP) :
    o.wp P a w (Nx X s.n s.k σ β w K) (Pn X s σ β w KP) := by
  simp only [vcOp] at hv
  have h1 := ev_ok h hx
  split at hv
  · rename_i c' es k1 b k2 m d e1 e2 e3 hdd
    rw [e1] at h1
    obtain ⟨hcc, hv⟩ := hv
    obtain ⟨hl, hsl⟩ := ra_sl (reads_sl_c hcc h1)
    obtain ⟨hbm, hmes, hv2⟩ := hv hl
    clear hv
    subst hbm
    have hhv := ev_ok h hhi
    rw [e2] at hhv
    have hhv := ra_int hhv
    have hmv := ev_ok h hmx
    rw [e3] at hmv
    have hmv := ra_int hmv
    obtain ⟨base, cap, hval, hcap⟩ : ∃ base cap, a.eval x = .slice base es.length cap ∧ es.length ≤ cap := by
      rcases hsl with ⟨e5, base, e6⟩ | ⟨b, off, cap, f, e3, hcap, _⟩
      · subst e5; exact ⟨base, 0, e6, by simp⟩
      · exact ⟨_, cap, e3, hcap⟩
    -- lo
    obtain ⟨l, hK, hb0, hlb, hbr⟩ : ∃ l, K (s.setO d c (.d (.sl c ((es.take b.toNat).drop l)))) ∧ 0 ≤ b ∧ l ≤ b.toNat ∧
        (Instr.sliceBounds true es.length cap (lo.map a.eval) (some (a.eval hi)) (some (a.eval mx))).run P w = .ok (l, b.toNat, b.toNat) w := by
      rw [hhv, hmv]
      cases lo with
      | none =>
        simp only [cOpt, Option.some.injEq] at hlo
        subst hlo
        simp only [vcBounds, e2] at hv2
        refine ⟨0, hv2.2, hv2.1.1, Nat.zero_le _, ?_⟩
        simp only [Instr.sliceBounds, Sem.run_bind, Sem.run_pure, Result.andThen_ok, Option.map_none]
        rw [run_sliceBound _ k2 b cap _ hv2.1.1 (by omega)]
        simp only [Result.andThen_ok]
        rw [run_sliceBound _ k1 b b.toNat _ hv2.1.1 (by omega)]
        simp
      | some y =>
        simp only [cOpt] at hlo
        cases hy : cOpd y with
        | none => rw [hy] at hlo; cases hlo
        | some y' =>
          rw [hy] at hlo
          simp only [Option.map_some, Option.some.injEq] at hlo
          subst hlo
          simp only [vcBounds, e2] at hv2
          split at hv2
          · rename_i _ _ k3 q _ _ e4 e5
            cases e5
            have hyv := ev_ok h hy
            rw [e4] at hyv
            have hyv := ra_int hyv
            refine ⟨q.toNat, hv2.2, by omega, by omega, ?_⟩
            simp only [Instr.sliceBounds, Sem.run_bind, Sem.run_pure, Result.andThen_ok, Option.map_some, hyv]
            rw [run_sliceBound _ k2 b cap _ (by omega) (by omega)]
            simp only [Result.andThen_ok]
            rw [run_sliceBound _ k1 b b.toNat _ (by omega) (by omega)]
            simp only [Result.andThen_ok, Option.isSome_some]
            rw [run_sliceBound _ k3 q b.toNat _ (by omega) (by omega)]
            simp
          · exact hv2.elim
    have hrun : (execOp a.eval o).run P w = .ok (.value (.slice (if b.toNat = l then base else base.map (·.add (l * c))) (b.toNat - l) (b.toNat - l))) w := by
      simp only [execOp, ho, hval, Instr.sliceAt, Sem.run_bind, run_underlying ht, Result.andThen_ok, Instr.slice]
      simp only [Option.map_some, hbr, Result.andThen_ok, run_size hc, Sem.run_pure]
    have hread : Reads σ (.sl c ((es.take b.toNat).drop l)) (.slice (if b.toNat = l then base else base.map (·.add (l * c))) (b.toNat - l) (b.toNat - l)) := by
      rcases hsl with ⟨e5, base2, e6⟩ | ⟨bb, off, cap2, f, e3, hcap2, hlen, hs, hr⟩
      · subst e5
        rw [e6] at hval
        cases hval
        simp only [List.length_nil] at hmes
        have : b.toNat = 0 := by omega
        rw [this] at hlb ⊢
        simp only [Nat.le_zero] at hlb
        subst hlb
        simp only [if_true]
        exact reads_sl0 _
      · rw [e3] at hval
        cases hval
        have := piece (σ := σ) (es := es.take b.toNat) (cap := b.toNat) (l := l) (hh := b.toNat) (b := bb) (off := off) (c := c) (f := f) hlb (by simp; omega) (by simp; omega) (by simp; omega) (fun e he => hlen e (List.mem_of_mem_take he))
          (fun i e he => hs i e (by rw [List.getElem?_take] at he; split at he; exact he; cases he)) (fun i e he => hr i e (by rw [List.getElem?_take] at he; split at he; exact he; cases he))
        rw [List.take_take, Nat.min_self] at this
        by_cases hcl : b.toNat = l
        · rw [if_pos hcl] at this ⊢; exact this
        · rw [if_neg hcl] at this ⊢
          simpa [Addr.add_lit] using this
    unfold Oper.wp
    rw [hrun, Oper.upon_value, hdd]
    refine ⟨_, σ, β, hK, rfl, rfl, ?_, Step.refl _ _ _ _ _⟩
    refine setO_rel h (hd d hdd) (.d _ _ hread) (fun _ _ _ _ e hlt => by injection e with e1 e2 e3; omega) (fun _ _ _ _ _ _ _ _ e => ?_)
    unfold ownB at e
    split at e
    · rename_i e2
      injection e2 with q1 q2 q3
      rw [if_neg (by omega)] at e; cases e
    · cases e
  · exact hv.elim

theorem s_s2a (h : Rel X σ β s a w) (hd : ∀ i, o.dst = some i → i < s.n) {t e : TypeId} {n c : Nat} {x : Operand} {x' : Opd} (ho : o.op = .sliceToArrayPointer t x) (hx : cOpd x = some x')
    (ht : P.underlying t = some (.array n e)) (hv : vcOp (.s2a n c x') o.dst s K KP) : o.wp P a w (Nx X s.n s.k σ β w K) (Pn X s σ β w KP) := by
  simp only [vcOp] at hv
  have h1 := ev_ok h hx
  split at hv
  · rename_i c' es e1
    rw [e1] at h1
    obtain ⟨hcc, hn, hn0, hK⟩ := hv
    obtain ⟨hl, hsl⟩ := ra_sl (reads_sl_c hcc h1)
    rcases hsl with ⟨e5, e6⟩ | ⟨b, off, cap, f, e3, hcap, hlen, hs, hr⟩
    · subst e5; simp at hn; omega
    · refine fin (v := .pointer (some ⟨b, off, none⟩)) h hd (.ep _ b off (fun j => f (j / c) (j % c)) ?_ ?_) ?_ hK
      · intro j y hy
        have hj := (List.getElem?_eq_some_iff.1 hy).1
        rw [flatten_len es hlen] at hj
        have hc0 : 0 < c := Nat.pos_of_ne_zero (fun e => by subst e; simp at hj)
        have hi : j / c < es.length := Nat.div_lt_of_lt_mul (by rw [Nat.mul_comm]; exact hj)
        have he : es[j / c]? = some es[j / c] := List.getElem?_eq_getElem hi
        have hel := hlen _ (List.getElem_mem hi)
        have hm : j % c < es[j / c].length := by rw [hel]; exact Nat.mod_lt _ hc0
        have hee := List.getElem?_eq_getElem hm
        have := hs _ _ he _ _ hee
        rw [show off + j / c * c + j % c = off + j by rw [Nat.mul_comm, Nat.add_assoc, Nat.div_add_mod]] at this
        exact this
      · intro j y hy
        have hj := (List.getElem?_eq_some_iff.1 hy).1
        rw [flatten_len es hlen] at hj
        have hc0 : 0 < c := Nat.pos_of_ne_zero (fun e => by subst e; simp at hj)
        have hi : j / c < es.length := Nat.div_lt_of_lt_mul (by rw [Nat.mul_comm]; exact hj)
        have he : es[j / c]? = some es[j / c] := List.getElem?_eq_getElem hi
        have hel := hlen _ (List.getElem_mem hi)
        have hm : j % c < es[j / c].length := by rw [hel]; exact Nat.mod_lt _ hc0
        have hee := List.getElem?_eq_getElem hm
        have h5 := flatten_get es hlen _ _ _ _ he hee
        rw [show j / c * c + j % c = j by rw [Nat.mul_comm, Nat.div_add_mod]] at h5
        rw [hy] at h5
        cases h5
        exact hr _ _ he _ _ hee
      · simp only [execOp, ho, e3, Instr.arrayAt, Sem.run_bind, run_underlying ht, Result.andThen_ok]
        rw [if_neg (by omega)]
        rfl
  · rename_i m off len cap e1
    rw [e1] at h1
    obtain ⟨b, hb, e3⟩ := ra_bsl h1
    refine fin (v := .pointer (some ⟨b, off, none⟩)) h hd (.ptr m _ b hb) ?_ hv.2
    simp only [execOp, ho, e3, Instr.arrayAt, Sem.run_bind, run_underlying ht, Result.andThen_ok]
    rw [if_neg (by omega)]
    rfl
  · exact hv.elim

/-- What is appended or copied, as cells. -/
theorem src_run (h : Rel X σ β s a w) {c : Nat} (hc0 : 0 < c) {v : Value} {x : A} (hx : RA σ β x v) {KK : List (List D) → Prop} (hv : srcCells s c x KK) :
    ∃ (xs : List (List D)) (news : List Value), KK xs ∧ xs.length ≤ maxL ∧ (∀ e, e ∈ xs → e.length = c) ∧ news.length = xs.length * c ∧ (∀ j y, xs.flatten[j]? = some y → Reads σ y (news.getD j undef)) ∧ (∀ u, u ∈ news → u.oneCell' = true) ∧
      (∀ w' : World, (Builtin.lenOf v).run P w' = .ok xs.length w') ∧
      ∀ (w' : World), w'.heap = w.heap → ∀ m, m ≤ xs.length → (Builtin.firstCells c m v).run P w' = .ok (news.take (m * c)).toArray w' := by
  have cellsAll : ∀ (es : List (List D)) (hlen : ∀ e, e ∈ es → e.length = c) (news : List Value), news.length = es.length * c → (∀ j y, es.flatten[j]? = some y → Reads σ y (news.getD j undef)) → ∀ u, u ∈ news → u.oneCell' = true := by
    intro es hlen news hn hr u hu
    obtain ⟨i, hi, e⟩ := List.getElem_of_mem hu
    have hfl := flatten_len es hlen
    have hi' : i < es.flatten.length := by omega
    have := hr i _ (List.getElem?_eq_getElem hi')
    rw [List.getD_eq_getElem?_getD, List.getElem?_eq_getElem hi, Option.getD_some, e] at this
    exact oneCell_of_ra (σ := σ) (β := β) (.d _ _ this) rfl
  unfold srcCells at hv
  split at hv
  · rename_i c' es
    obtain ⟨hcc, hv⟩ := hv
    obtain ⟨hl, hsl⟩ := ra_sl (reads_sl_c hcc hx)
    rcases hsl with ⟨e5, base, e6⟩ | ⟨b, off, cap, f, e3, hcap, hlen, hs, hr⟩
    · subst e5; subst e6
      refine ⟨[], [], hv hl, by simp, by simp, by simp, by simp, by simp, fun _ => rfl, ?_⟩
      intro w' _ m hm
      have hm0 : m = 0 := by simpa using hm
      subst hm0
      cases base with
      | none => simp [Builtin.firstCells]
      | some ad =>
        have hlc : (loadCells ad 0).run P w' = .ok #[] w' := run_loadCells_list (P := P) w' ad [] (fun j v hj => by simp at hj)
        simp [Builtin.firstCells, hlc]
    · subst e3
      have hfl := flatten_len es hlen
      let news := (List.range (es.length * c)).map fun j => f (j / c) (j % c)
      have hnr : ∀ j y, es.flatten[j]? = some y → Reads σ y (news.getD j undef) ∧ σ b (off + j) = some (news.getD j undef) := by
        intro j y hy
        have hj := (List.getElem?_eq_some_iff.1 hy).1
        rw [hfl] at hj
        have hi : j / c < es.length := Nat.div_lt_of_lt_mul (by rw [Nat.mul_comm]; exact hj)
        have he : es[j / c]? = some es[j / c] := List.getElem?_eq_getElem hi
        have hel := hlen _ (List.getElem_mem hi)
        have hm : j % c < es[j / c].length := by rw [hel]; exact Nat.mod_lt _ hc0
        have hee := List.getElem?_eq_getElem hm
        have h5 := flatten_get es hlen _ _ _ _ he hee
        rw [show j / c * c + j % c = j by rw [Nat.mul_comm, Nat.div_add_mod]] at h5
        rw [hy] at h5
        cases h5
        have hn : news.getD j undef = f (j / c) (j % c) := by
          simp only [news, List.getD_eq_getElem?_getD, List.getElem?_map, List.getElem?_range hj, Option.map_some, Option.getD_some]
        rw [hn]
        refine ⟨hr _ _ he _ _ hee, ?_⟩
        have := hs _ _ he _ _ hee
        rw [show off + j / c * c + j % c = off + j by rw [Nat.mul_comm, Nat.add_assoc, Nat.div_add_mod]] at this
        exact this
      have hnl : news.length = es.length * c := by simp [news]
      refine ⟨es, news, hv hl, hl, hlen, hnl, fun j y hy => (hnr j y hy).1, cellsAll es hlen news hnl (fun j y hy => (hnr j y hy).1), fun _ => rfl, ?_⟩
      intro w' hw' m hm
      have hml : (news.take (m * c)).length = m * c := by
        rw [List.length_take, hnl]
        exact Nat.min_eq_left (Nat.mul_le_mul_right _ hm)
      have := run_loadCells_list (P := P) w' ⟨b, off, none⟩ (news.take (m * c)) (fun j v hj => by
        rw [Addr.add_lit, cell_of_heap (w := w) (w' := w') (by rw [hw'])]
        rw [List.getElem?_take] at hj
        split at hj
        · have hjl := (List.getElem?_eq_some_iff.1 hj).1
          have hjf : j < es.flatten.length := by omega
          have := (hnr j _ (List.getElem?_eq_getElem hjf)).2
          rw [List.getD_eq_getElem?_getD, hj, Option.getD_some] at this
          exact h.st _ _ _ this
        · cases hj)
      rw [hml] at this
      simp only [Builtin.firstCells, this]
  · rename_i b
    obtain ⟨rfl, hv⟩ := hv
    obtain ⟨e3, hl⟩ := ra_str hx
    subst e3
    have hbs : (⟨b.toArray⟩ : ByteArray).size = b.length := by simp [ByteArray.size]
    refine ⟨b.map bc, b.map fun y => .int .u8 y.toNat, hv hl, by simpa using hl, by simp [bc], by simp, ?_, by simp [Value.oneCell'], ?_, ?_⟩
    · intro j y hy
      rw [bytes_flat, List.getElem?_map] at hy
      cases hq : b[j]? with
      | none => rw [hq] at hy; cases hy
      | some z =>
        rw [hq] at hy
        simp only [Option.map_some, Option.some.injEq] at hy
        subst hy
        simp only [List.getD_eq_getElem?_getD, List.getElem?_map, hq, Option.map_some, Option.getD_some]
        exact .int _ _
    · intro w'; simp [Builtin.lenOf, hbs]
    · intro w' _ m hm
      simp only [List.length_map] at hm
      simp only [Builtin.firstCells, Sem.run_pure, Nat.mul_one, extract_bytes]
      congr 1
      simp [List.map_take]
  · rename_i n off len cap
    obtain ⟨cs, es, hcs, hle, hlm, hlen, hel, htk, hK⟩ := srcBsl (s := s) (c := c) (n := n) (o := off) (len := len) (cap := cap) (K := KK) hv
    obtain ⟨b, hb, e3⟩ := ra_bsl hx
    subst e3
    obtain ⟨b', arr, T, fz, hb', hh, hsz, hrr, hxx, hσ, hf⟩ := h.box n cs hcs
    rw [hb] at hb'; cases hb'
    have hfl := flatten_len es hlen
    let news := ((arr.toList.drop off).take (len * c))
    have hnl : news.length = es.length * c := by simp [news]; rw [hel]; omega
    have hnr : ∀ j y, es.flatten[j]? = some y → Reads σ y (news.getD j undef) := by
      intro j y hy
      have hj := (List.getElem?_eq_some_iff.1 hy).1
      have h1 : ((cs.drop off).take (len * c))[j]? = some (.d y) := by rw [htk, List.getElem?_map, hy]; rfl
      rw [List.getElem?_take, if_pos (by rw [hfl, hel] at hj; exact hj), List.getElem?_drop] at h1
      have h2 := hrr _ _ h1
      have h3 : news.getD j undef = arr.getD (off + j) undef := by
        simp only [news, List.getD_eq_getElem?_getD, List.getElem?_take, List.getElem?_drop, Array.getD_eq_getD_getElem?, Array.getElem?_toList]
        rw [if_pos (by rw [hfl, hel] at hj; exact hj)]
      rw [h3]
      cases h2 with | d _ _ h => exact h
    refine ⟨es, news, hK, by omega, hlen, hnl, hnr, cellsAll es hlen news hnl hnr, fun _ => by rw [hel]; rfl, ?_⟩
    intro w' hw' m hm
    have hml : (news.take (m * c)).length = m * c := by
      rw [List.length_take, hnl]
      exact Nat.min_eq_left (Nat.mul_le_mul_right _ hm)
    have := run_loadCells_list (P := P) w' ⟨b, off, none⟩ (news.take (m * c)) (fun j v hj => by
      rw [Addr.add_lit, cell_of_heap (w := w) (w' := w') (by rw [hw']), cell_of_block hh]
      rw [List.getElem?_take] at hj
      split at hj
      · simp only [news] at hj
        rw [List.getElem?_take] at hj
        split at hj
        · rw [List.getElem?_drop, Array.getElem?_toList] at hj; exact hj
        · cases hj
      · cases hj)
    rw [hml] at this
    simp only [Builtin.firstCells, this]
  · exact hv.elim


theorem growBy_le (n : Nat) : ∀ (r c : Nat), c ≤ n → Builtin.growBy n r c ≤ n + (n + 768) / 4 := by
  intro r
  induction r with
  | zero => intro c hc; simp only [Builtin.growBy]; omega
  | succ r ih =>
    intro c hc
    simp only [Builtin.growBy]
    split
    · omega
    · by_cases h2 : c + (c + 768) / 4 ≤ n
      · exact ih _ h2
      · cases r with
        | zero => simp only [Builtin.growBy]; omega
        | succ r =>
          simp only [Builtin.growBy]
          rw [if_pos (by omega)]
          omega

theorem nextcap_le {n old bytes : Nat} (h : old < n) (hb : n * bytes ≤ 140737488355328) : ¬ (Builtin.nextslicecap n old * bytes > 2 ^ 48) := by
  have key : Builtin.nextslicecap n old ≤ 2 * n := by
    unfold Builtin.nextslicecap
    split
    · omega
    · split
      · omega
      · have := growBy_le n 4 old (by omega)
        omega
  have := Nat.mul_le_mul_right bytes key
  rw [Nat.mul_assoc] at this
  omega

/-- An append, run: in place, or in a new block. -/
theorem append_run {t u e : TypeId} {ty : TypeId} {c bytes : Nat} {ie : TypeInfo} {l : List (D × Option Nat)} (ht : P.underlying t = some (.slice e)) (hie : P.info? e = some ie) (hcs : ie.size = c) (hby : ie.bytes = bytes) (hb0 : bytes ≠ 0) (hl : zeroT P e = some l) (hlc : l.length = c)
    (hu : ∃ du, P.underlying u = some du ∧ ∀ k, du ≠ .int k)
    {base : Option Addr} {len cap : Nat} {v : Value} {xs : List (List D)} {news : List Value} (hnl : news.length = xs.length * c)
    (hlen : (Builtin.lenOf v).run P w = .ok xs.length w) (hnew : ∀ w' : World, w'.heap = w.heap → (Builtin.firstCells c xs.length v).run P w' = .ok news.toArray w')
    (hsz : (len + xs.length) * bytes ≤ 140737488355328) (olds : List Value) (hol : olds.length = len * c) (hold : ∀ w' : World, w'.heap = w.heap → (Builtin.firstCells c len (.slice base len cap)).run P w' = .ok olds.toArray w') :
    (len + xs.length ≤ cap → ∀ w', (match base with | some a => (storeCells (a.add (len * c)) news).run P w = .ok () w' | none => w' = w) →
      (Builtin.append_ #[t, u] ty #[.slice base len cap, v]).run P w = .ok (.slice base (len + xs.length) cap) w') ∧
    (¬ len + xs.length ≤ cap → ∃ ncap w' arr, (Builtin.append_ #[t, u] ty #[.slice base len cap, v]).run P w = .ok (.slice (some ⟨w.heap.size, 0, none⟩) (len + xs.length) ncap) w' ∧ len + xs.length ≤ ncap ∧
      w'.heap = w.heap.push (.cells arr e) ∧ w'.os = w.os ∧ w'.tape = w.tape ∧ w'.output = w.output ∧ arr.size = ncap * c ∧ ∀ j, j < (olds ++ news).length → arr.getD j undef = (olds ++ news).getD j undef) := by
  obtain ⟨du, hdu, hni⟩ := hu
  have hz : ((fun (d : TypeDesc) => match d with | .int _ => true | _ => false) du) = false := by
    cases du with
    | int k => exact (hni k rfl).elim
    | _ => rfl
  have hzm : (match du with | .int _ => true | _ => false) = false := hz
  have hsize : tySize P e = some c := by simp [tySize, hie, hcs]
  have hti : ∀ w' : World, (typeInfo e).run P w' = .ok ie w' := fun w' => by simp [typeInfo, hie]
  constructor
  · intro hroom w' hst
    simp only [Builtin.append_, List.getElem?_toArray, List.getElem?_cons_zero, List.getElem?_cons_succ]
    simp only [Sem.run_bind, run_underlying ht, Result.andThen_ok, run_size hsize, run_underlying hdu, Sem.run_pure]
    simp only [hzm, Bool.false_eq_true, if_false]
    rw [Sem.run_bind, hlen]
    simp only [Result.andThen_ok]
    rw [if_pos hroom]
    simp only [Bool.not_false, if_true, Sem.run_bind, hnew w rfl, Result.andThen_ok]
    cases base with
    | none => simp only at hst; subst hst; simp
    | some ad =>
      simp only at hst
      simp only [Sem.run_bind, hst, Result.andThen_ok, Sem.run_pure]
  · intro hroom
    obtain ⟨ncap, w1, hch, hcap, hw1⟩ := run_appendCap (P := P) w (len + xs.length) cap e
    obtain ⟨i2, z, hi2, hz2, hzs, _⟩ := zeroT_info hl
    rw [hie] at hi2
    cases hi2
    let arr : Array Value := olds.toArray ++ news.toArray ++ Builtin.zeroCells z.cells (ncap - (len + xs.length))
    refine ⟨ncap, { w1 with heap := w1.heap.push (.cells arr e) }, arr, ?_, hcap, by simp [hw1.1], hw1.2.1, hw1.2.2.1, hw1.2.2.2, ?_, ?_⟩
    · simp only [Builtin.append_, List.getElem?_toArray, List.getElem?_cons_zero, List.getElem?_cons_succ]
      simp only [Sem.run_bind, run_underlying ht, Result.andThen_ok, run_size hsize, run_underlying hdu, Sem.run_pure]
      simp only [hzm, Bool.false_eq_true, if_false]
      rw [Sem.run_bind, hlen]
      simp only [Result.andThen_ok]
      rw [if_neg hroom, Sem.run_bind, hti]
      simp only [Result.andThen_ok]
      rw [if_neg (by rw [hby]; simp [hb0])]
      have hnc : ¬ (Builtin.nextslicecap (len + xs.length) cap * ie.bytes > 2 ^ 48) := by rw [hby]; exact nextcap_le (by omega) hsz
      simp only [Sem.run_bind, hti, Result.andThen_ok, if_neg hnc, hch, run_askRoom, hold w1 hw1.1, hnew w1 hw1.1]
      have hzv : (zeroValue e).run P w1 = .ok z w1 := by simp [zeroValue, typeInfo, hie, hz2]
      simp only [Bool.not_false, if_true, hnew w1 hw1.1, hzv, Result.andThen_ok, newRow, Sem.run_bind, run_newObj, Sem.run_pure, hw1.1]
      rfl
    · simp only [arr, Array.size_append, List.size_toArray, hol, hnl, size_zeroCells, hzs, hlc]
      rw [← Nat.add_mul, ← Nat.add_mul]
      congr 1
      omega
    · intro j hj
      simp only [arr]
      rw [Array.getD_eq_getD_getElem?, Array.getElem?_append_left (by simpa using hj), List.getD_eq_getElem?_getD]
      congr 1
      simp

end
end Go.Vx
