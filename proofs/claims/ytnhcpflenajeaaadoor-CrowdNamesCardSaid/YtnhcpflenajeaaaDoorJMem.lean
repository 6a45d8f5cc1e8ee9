/- What a call may have written, and maps as functions: words and laws for walks over maps with keys of one make. No program in sight. -/
import Derived.Below
import Derived.OwnWalk
import Derived.Maps.Own
import Derived.Maps.OwnIn
import Derived.WalkKit
import Derived.OneCell
import Derived.Deep.Draws
import Derived.Laws.Rows
import Derived.Maps.AppendAt
import Derived.Test.YtnhcpflenajeaaaDoorJPCrowdMostx0
import Derived.Laws.StructEq
set_option linter.unusedVariables false
set_option linter.unusedSimpArgs false
namespace Go.Proofs.YtnhcpflenajeaaaDoor.Mem
open Go Go.RowKit

/-! ### 1. What was there and lies not in S is as it was -/
structure Fr (S : Nat → Prop) (w w' : World) : Prop where
  os : w'.os = w.os
  tape : w'.tape = w.tape
  output : w'.output = w.output
  size : w.heap.size ≤ w'.heap.size
  block : ∀ k, k < w.heap.size → ¬ S k → w'.heap[k]? = w.heap[k]?

theorem Fr.refl (S : Nat → Prop) (w : World) : Fr S w w := ⟨rfl, rfl, rfl, Nat.le_refl _, fun _ _ _ => rfl⟩
theorem Fr.trans {S : Nat → Prop} {a b c : World} (h : Fr S a b) (k : Fr S b c) : Fr S a c :=
  ⟨k.os.trans h.os, k.tape.trans h.tape, k.output.trans h.output, Nat.le_trans h.size k.size, fun i hi hs => (k.block i (Nat.lt_of_lt_of_le hi h.size) hs).trans (h.block i hi hs)⟩
theorem Fr.mono {S T : Nat → Prop} {a b : World} (h : Fr S a b) (hST : ∀ k, k < a.heap.size → S k → T k) : Fr T a b :=
  ⟨h.os, h.tape, h.output, h.size, fun i hi hs => h.block i hi (fun hsi => hs (hST i hi hsi))⟩
theorem Fr.alloc {S : Nat → Prop} {a w : World} (h : Fr S a w) (o : Obj) : Fr S a (w.alloc o) :=
  h.trans ⟨rfl, rfl, rfl, by simp, fun k hk _ => Below.heap_alloc w o k hk⟩
theorem Fr.setCell {S : Nat → Prop} {a w : World} (h : Fr S a w) {p : Addr} (hp : S p.block) (u : Value) : Fr S a (w.setCell p u) :=
  h.trans ⟨rfl, rfl, rfl, by simp [World.setCell], fun k hk hs => Below.heap_setCell w p u k (fun e => hs (e ▸ hp))⟩
/-- A cell of a block that is new since a. -/
theorem Fr.setNew {S : Nat → Prop} {a w : World} (h : Fr S a w) {p : Addr} (hp : a.heap.size ≤ p.block) (u : Value) : Fr S a (w.setCell p u) :=
  ⟨h.os, h.tape, h.output, by simpa [World.setCell] using h.size, fun k hk hs => (Below.heap_setCell w p u k (by omega)).trans (h.block k hk hs)⟩
theorem Fr.drew {S : Nat → Prop} {a w : World} (h : Fr S a w) : Fr S a w.drew := ⟨h.os, h.tape, h.output, h.size, h.block⟩
theorem Fr.drewN {S : Nat → Prop} {a w : World} (h : Fr S a w) (n : Nat) : Fr S a (w.drewN n) := ⟨h.os, h.tape, h.output, h.size, h.block⟩
theorem Fr.grown {S : Nat → Prop} {a w w' : World} {row : Option Nat} (h : Fr S a w) (hg : w.grownBy w' row) (hr : ∀ k, row = some k → S k ∨ a.heap.size ≤ k) : Fr S a w' :=
  ⟨hg.os.trans h.os, hg.tape.trans h.tape, hg.output.trans h.output, Nat.le_trans h.size hg.size, fun k hk hs => by
    refine (hg.block k (Nat.lt_of_lt_of_le hk h.size) (fun e => ?_)).trans (h.block k hk hs)
    rcases hr k e.symm with h1 | h1
    · exact hs h1
    · omega⟩
theorem Fr.of_grown {w w' : World} {row : Option Nat} (hg : w.grownBy w' row) : Fr (fun k => some k = row) w w' := ⟨hg.os, hg.tape, hg.output, hg.size, fun k hk hs => hg.block k hk hs⟩
/-- What lies below B is as it was: the kit's own word. -/
theorem Fr.below {S : Nat → Prop} {B : Nat} {w w' : World} (h : Fr S w w') (hB : B ≤ w.heap.size) (hS : ∀ k, k < B → ¬ S k) : Below B w w' :=
  ⟨h.os, h.tape, h.output, h.size, fun k hk => h.block k (by omega) (hS k hk)⟩
theorem Fr.of_below {B : Nat} {w w' : World} (h : Below B w w') : Fr (fun k => B ≤ k) w w' := ⟨h.os, h.tape, h.output, h.size, fun k _ hs => h.block k (by omega)⟩
/-- A callee's word, in its caller's: what the callee may have written is new, or the caller may write it. -/
theorem Fr.then {S T : Nat → Prop} {a w w' : World} (h : Fr S a w) (k : Fr T w w') (hT : ∀ i, i < w.heap.size → T i → S i ∨ a.heap.size ≤ i) : Fr S a w' :=
  ⟨k.os.trans h.os, k.tape.trans h.tape, k.output.trans h.output, Nat.le_trans h.size k.size, fun i hi hs => by
    refine (k.block i (Nat.lt_of_lt_of_le hi h.size) (fun ht => ?_)).trans (h.block i hi hs)
    rcases hT i (Nat.lt_of_lt_of_le hi h.size) ht with h1 | h1
    · exact hs h1
    · omega⟩
theorem Fr.cell {S : Nat → Prop} {w w' : World} (h : Fr S w w') {a : Addr} {v : Value} (hc : w.cell? a = some v) (hs : ¬ S a.block) : w'.cell? a = some v :=
  (World.cell?_of_block (h.block a.block (World.block_lt_of_cell? w a hc) hs)).trans hc
theorem Fr.heap {S : Nat → Prop} {w w' : World} (h : Fr S w w') {k : Nat} {o : Obj} (hc : w.heap[k]? = some o) (hs : ¬ S k) : w'.heap[k]? = some o :=
  (h.block k (Array.getElem?_eq_some_iff.1 hc).1 hs).trans hc
theorem Fr.grownBy {S : Nat → Prop} {w w' : World} (h : Fr S w w') (row : Option Nat) (hs : ∀ k, S k → some k = row) : w.grownBy w' row :=
  ⟨h.os, h.tape, h.output, h.size, fun k hk hne => h.block k hk (fun hk' => hne (hs k hk'))⟩

/-! ### 2. Keys of one make -/
structure KeyT (P : Program) (kt : TypeId) {K : Type} (enc : K → Value) : Prop where
  inj : ∀ a b, enc a = enc b → a = b
  check : ∀ (w : World) (em : Bool) (k : K), (Instr.checkKey em 10000 kt (enc k)).run P w = .ok () w
  find : ∀ (w : World) (k : K) (es : List MapEntry), (∀ e ∈ es, ∃ k', e.key = enc k') →
    ((Instr.findKey kt (enc k) es).run P w = .ok none w ∧ ∀ e ∈ es, e.key ≠ enc k) ∨ ∃ j e, (Instr.findKey kt (enc k) es).run P w = .ok (some (j, e.val)) w ∧ es[j]? = some e ∧ e.key = enc k
  stays : ∀ (w : World) (k : K), (Instr.keyThatStays (enc k) (enc k)).run P w = .ok (enc k) w

section
variable {P : Program} {kt : TypeId} {K : Type} {enc : K → Value}

theorem find_asking [DecidableEq K] (heq : ∀ (w : World) (a b : K), (Op.equal kt (enc a) (enc b)).run P w = .ok (decide (a = b)) w) (hinj : ∀ a b, enc a = enc b → a = b) (w : World) (k : K) : ∀ (es : List MapEntry) (i : Nat), (∀ e ∈ es, ∃ k', e.key = enc k') →
    ((Instr.findAsking kt (enc k) es i).run P w = .ok none w ∧ ∀ e ∈ es, e.key ≠ enc k) ∨ ∃ j e, (Instr.findAsking kt (enc k) es i).run P w = .ok (some (i + j, e.val)) w ∧ es[j]? = some e ∧ e.key = enc k
  | [], i, _ => .inl ⟨by simp [Instr.findAsking], by simp⟩
  | e :: es, i, h => by
    obtain ⟨k', hk'⟩ := h e (List.mem_cons_self ..)
    by_cases he : k = k'
    · subst he
      refine .inr ⟨0, e, ?_, rfl, hk'⟩
      simp [Instr.findAsking, Sem.run_bind, hk', heq, Result.andThen]
    · have hne : e.key ≠ enc k := fun e' => he (hinj _ _ (e'.symm.trans hk'))
      rcases find_asking heq hinj w k es (i + 1) (fun x hx => h x (List.mem_cons_of_mem _ hx)) with ⟨h1, h2⟩ | ⟨j, e1, h1, h2, h3⟩
      · refine .inl ⟨?_, ?_⟩
        · simp [Instr.findAsking, Sem.run_bind, hk', heq, Result.andThen, he, h1]
        · intro x hx
          rcases List.mem_cons.1 hx with rfl | hx
          · exact hne
          · exact h2 x hx
      · refine .inr ⟨j + 1, e1, ?_, by simpa using h2, h3⟩
        simp [Instr.findAsking, Sem.run_bind, hk', heq, Result.andThen, he, h1]
        omega

/-- Structs as keys. -/
theorem KeyT.of_struct [DecidableEq K] {fs : Array Field} (hu : P.underlying kt = some (.struct fs)) (hinj : ∀ a b, enc a = enc b → a = b)
    (heq : ∀ (w : World) (a b : K), (Op.equal kt (enc a) (enc b)).run P w = .ok (decide (a = b)) w)
    (hcheck : ∀ (w : World) (em : Bool) (k : K), (Instr.checkKey em 10000 kt (enc k)).run P w = .ok () w) (hbits : ∀ k, Instr.sameBits 10000 (enc k) (enc k) = true) : KeyT P kt enc where
  inj := hinj
  check := hcheck
  stays w k := by simp [Instr.keyThatStays, hbits]
  find w k es h := by
    have hn : ∀ es : List MapEntry, es ≠ [] → Instr.findNow (.struct fs) (enc k) es 0 = none := by
      intro es hne
      cases es with
      | nil => exact absurd rfl hne
      | cons e es => simp [Instr.findNow, Instr.sameNow]
    cases es with
    | nil => exact .inl ⟨by simp [Instr.findKey, run_underlying hu, Instr.findNow, Result.andThen], by simp⟩
    | cons e es =>
      have := find_asking heq hinj w k (e :: es) 0 h
      simpa [Instr.findKey, run_underlying hu, hn (e :: es) (by simp), Result.andThen] using this
end

/-- Whole numbers as keys. -/
theorem findNow_int (q : IntKind) (n : Int) : ∀ (es : List MapEntry) (i : Nat), (∀ e ∈ es, ∃ m, e.key = .int q m) →
    (Instr.findNow (.int q) (.int q n) es i = some none ∧ ∀ e ∈ es, e.key ≠ .int q n) ∨ ∃ j e, Instr.findNow (.int q) (.int q n) es i = some (some (i + j, e.val)) ∧ es[j]? = some e ∧ e.key = .int q n
  | [], i, _ => .inl ⟨rfl, by simp⟩
  | e :: es, i, h => by
    obtain ⟨m, hm⟩ := h e (List.mem_cons_self ..)
    by_cases he : n = m
    · subst he
      exact .inr ⟨0, e, by simp [Instr.findNow, hm, Instr.sameNow], rfl, hm⟩
    · have hb : (n == m) = false := by simp [he]
      rcases findNow_int q n es (i + 1) (fun x hx => h x (List.mem_cons_of_mem _ hx)) with ⟨h1, h2⟩ | ⟨j, e1, h1, h2, h3⟩
      · refine .inl ⟨by simp [Instr.findNow, hm, Instr.sameNow, hb, h1], ?_⟩
        intro x hx
        rcases List.mem_cons.1 hx with rfl | hx
        · rw [hm]; intro e'; injection e' with _ e'; exact he e'.symm
        · exact h2 x hx
      · refine .inr ⟨j + 1, e1, ?_, by simpa using h2, h3⟩
        simp [Instr.findNow, hm, Instr.sameNow, hb, h1]
        omega

theorem KeyT.of_int {P : Program} {kt : TypeId} {q : IntKind} (hu : P.underlying kt = some (.int q)) : KeyT P kt (fun n : Int => Value.int q n) where
  inj a b h := by injection h
  check w em k := by
    unfold Instr.checkKey
    simp [run_underlying hu, Result.andThen]
  stays w k := by simp [Instr.keyThatStays, Instr.sameBits]
  find w k es h := by
    rcases findNow_int q k es 0 h with ⟨h1, h2⟩ | ⟨j, e, h1, h2, h3⟩
    · exact .inl ⟨by simp [Instr.findKey, run_underlying hu, h1, Result.andThen], h2⟩
    · exact .inr ⟨j, e, by simp [Instr.findKey, run_underlying hu, h1, Result.andThen], h2, h3⟩

/-! ### 3. A map as a function -/
def Rep {K : Type} (enc : K → Value) (es : List MapEntry) (clock : Nat) (f : K → Option Value) : Prop :=
  (∀ e ∈ es, ∃ k, e.key = enc k) ∧ es.Pairwise (fun a b => a.key ≠ b.key ∧ a.born ≠ b.born) ∧ (∀ e ∈ es, e.born < clock) ∧
  ∀ k v, f k = some v ↔ ∃ e ∈ es, e.key = enc k ∧ e.val = v
def MapFn {K : Type} (enc : K → Value) (w : World) (b : Nat) (f : K → Option Value) : Prop :=
  ∃ es clock, w.heap[b]? = some (.map es clock) ∧ Rep enc es.toList clock f
/-- The entry of this stamp is k's. -/
def Stamp {K : Type} (enc : K → Value) (w : World) (b : Nat) (st : Nat) (k : K) : Prop :=
  ∃ es clock, w.heap[b]? = some (.map es clock) ∧ ∃ e ∈ es.toList, e.born = st ∧ e.key = enc k
def upd {K : Type} [DecidableEq K] (f : K → Option Value) (k : K) (v : Value) : K → Option Value := fun x => if x = k then some v else f x

section
variable {P : Program} {kt t e : TypeId} {K : Type} {enc : K → Value} {w : World} {b : Nat} {f : K → Option Value}

theorem MapFn.new (w : World) : MapFn enc (w.alloc (.map #[] 0)) w.heap.size (fun _ => none) :=
  ⟨#[], 0, heap_alloc_new w _, by simp [Rep]⟩
theorem MapFn.lt (h : MapFn enc w b f) : b < w.heap.size := by
  obtain ⟨es, c, hb, _⟩ := h
  exact (Array.getElem?_eq_some_iff.1 hb).1
theorem MapFn.of_heap {w' : World} (h : MapFn enc w b f) (hb : w'.heap[b]? = w.heap[b]?) : MapFn enc w' b f := by
  obtain ⟨es, c, h1, h2⟩ := h
  exact ⟨es, c, hb.trans h1, h2⟩
theorem MapFn.kept {w' : World} {row : Option Nat} (h : MapFn enc w b f) (hg : w.grownBy w' row) (hne : some b ≠ row) : MapFn enc w' b f := h.of_heap (hg.block b h.lt hne)
theorem MapFn.fr {w' : World} {S : Nat → Prop} (h : MapFn enc w b f) (hg : Fr S w w') (hne : ¬ S b) : MapFn enc w' b f := h.of_heap (hg.block b h.lt hne)
theorem MapFn.alloc (h : MapFn enc w b f) (o : Obj) : MapFn enc (w.alloc o) b f := h.of_heap (Below.heap_alloc w o b h.lt)
theorem MapFn.setCell (h : MapFn enc w b f) {p : Addr} (hp : b ≠ p.block) (u : Value) : MapFn enc (w.setCell p u) b f := h.of_heap (Below.heap_setCell w p u b hp)
theorem MapFn.drew (h : MapFn enc w b f) : MapFn enc w.drew b f := h
theorem MapFn.drewN (h : MapFn enc w b f) (n : Nat) : MapFn enc (w.drewN n) b f := h
theorem Stamp.of_heap {w' : World} {st : Nat} {k : K} (h : Stamp enc w b st k) (hb : w'.heap[b]? = w.heap[b]?) : Stamp enc w' b st k := by
  obtain ⟨es, c, h1, h2⟩ := h
  exact ⟨es, c, hb.trans h1, h2⟩
theorem Stamp.lt {st : Nat} {k : K} (h : Stamp enc w b st k) : b < w.heap.size := by
  obtain ⟨es, c, hb, _⟩ := h
  exact (Array.getElem?_eq_some_iff.1 hb).1
theorem Stamp.kept {w' : World} {row : Option Nat} {st : Nat} {k : K} (h : Stamp enc w b st k) (hg : w.grownBy w' row) (hne : some b ≠ row) : Stamp enc w' b st k := h.of_heap (hg.block b h.lt hne)

theorem pair_eq {es : List MapEntry} (hp : es.Pairwise (fun a b => a.key ≠ b.key ∧ a.born ≠ b.born)) {x y : MapEntry} (hx : x ∈ es) (hy : y ∈ es) (h : x.key = y.key ∨ x.born = y.born) : x = y := by
  induction es with
  | nil => cases hx
  | cons a l ih =>
    obtain ⟨h1, h2⟩ := List.pairwise_cons.1 hp
    rcases List.mem_cons.1 hx with rfl | hx' <;> rcases List.mem_cons.1 hy with rfl | hy'
    · rfl
    · rcases h with h | h
      · exact absurd h (h1 y hy').1
      · exact absurd h (h1 y hy').2
    · rcases h with h | h
      · exact absurd h.symm (h1 x hx').1
      · exact absurd h.symm (h1 x hx').2
    · exact ih h2 hx' hy'

theorem Rep.some_of {es : List MapEntry} {c : Nat} (h : Rep enc es c f) {x : MapEntry} (hx : x ∈ es) {k : K} (hk : x.key = enc k) : f k = some x.val := (h.2.2.2 k x.val).2 ⟨x, hx, hk, rfl⟩
theorem Rep.none_of {es : List MapEntry} {c : Nat} (h : Rep enc es c f) {k : K} (hk : ∀ x ∈ es, x.key ≠ enc k) : f k = none := by
  cases hf : f k with
  | none => rfl
  | some v =>
    obtain ⟨x, hx, h1, _⟩ := (h.2.2.2 k v).1 hf
    exact absurd h1 (hk x hx)

/-- 'm[k]': the value, or the zero value; and whether there is one. -/
theorem MapFn.look (K' : KeyT P kt enc) (ht : P.underlying t = some (.map kt e)) {z : Value} (hz : (zeroValue e).run P w = .ok z w) (h : MapFn enc w b f) (k : K) (c : Bool) :
    (Instr.lookup t (.map (some b)) (enc k) c).run P w = .ok (if c then .tuple #[(f k).getD z, .bool (f k).isSome] else (f k).getD z) w := by
  obtain ⟨es, cl, hb, hR⟩ := h
  rcases K'.find w k es.toList hR.1 with ⟨h1, h2⟩ | ⟨j, x, h1, h2, h3⟩
  · have hf := hR.none_of h2
    simp [Instr.lookup, run_underlying ht, MapKept.run_getObj_map hb, K'.check, h1, hz, Result.andThen, hf]
  · have hf := hR.some_of (List.mem_of_getElem? h2) h3
    simp [Instr.lookup, run_underlying ht, MapKept.run_getObj_map hb, K'.check, h1, Result.andThen, hf]

theorem grownBy_setObj {w : World} {b : Nat} (o : Obj) : w.grownBy { w with heap := w.heap.setIfInBounds b o } (some b) :=
  ⟨rfl, rfl, rfl, by simp, fun k hk hne => by
    have : b ≠ k := fun e => hne (by rw [e])
    simp [Array.getElem?_setIfInBounds, this]⟩
theorem heap_setObj {w : World} {b : Nat} (o : Obj) (h : b < w.heap.size) : ({ w with heap := w.heap.setIfInBounds b o } : World).heap[b]? = some o := by
  simp [Array.getElem?_setIfInBounds, h]

theorem mem_modify {es : Array MapEntry} {j : Nat} {x : MapEntry} (hx : es.toList[j]? = some x) (g : MapEntry → MapEntry) : (es.modify j g).toList = es.toList.set j (g x) := by
  have hj : j < es.size := by
    have := (List.getElem?_eq_some_iff.1 hx).1
    simpa using this
  have hx' : es[j] = x := by
    have := (List.getElem?_eq_some_iff.1 hx).2
    simpa using this
  apply List.ext_getElem?
  intro i
  by_cases hij : j = i
  · subst hij
    simp [Array.getElem?_modify, hj, hx']
  · simp [Array.getElem?_modify, hij, List.getElem?_set]

theorem pairwise_set {es : List MapEntry} {j : Nat} {x y : MapEntry} (hx : es[j]? = some x) (hk : y.key = x.key) (hb : y.born = x.born) (hp : es.Pairwise (fun a b => a.key ≠ b.key ∧ a.born ≠ b.born)) : (es.set j y).Pairwise (fun a b => a.key ≠ b.key ∧ a.born ≠ b.born) := by
  induction es generalizing j with
  | nil => simp at hx
  | cons a l ih =>
    obtain ⟨h1, h2⟩ := List.pairwise_cons.1 hp
    cases j with
    | zero =>
      simp at hx
      subst hx
      simp only [List.set_cons_zero]
      exact List.pairwise_cons.2 ⟨fun z hz => by rw [hk, hb]; exact h1 z hz, h2⟩
    | succ j =>
      simp at hx
      simp only [List.set_cons_succ]
      refine List.pairwise_cons.2 ⟨fun z hz => ?_, ih hx h2⟩
      rcases List.mem_or_eq_of_mem_set hz with hz | rfl
      · exact h1 z hz
      · rw [hk, hb]; exact h1 x (List.mem_of_getElem? hx)

theorem mem_set_iff {es : List MapEntry} {j : Nat} {x y : MapEntry} (hx : es[j]? = some x) (hp : es.Pairwise (fun a b => a.key ≠ b.key ∧ a.born ≠ b.born)) (z : MapEntry) : z ∈ es.set j y ↔ z = y ∨ (z ∈ es ∧ z ≠ x) := by
  induction es generalizing j with
  | nil => simp at hx
  | cons a l ih =>
    obtain ⟨h1, h2⟩ := List.pairwise_cons.1 hp
    cases j with
    | zero =>
      simp at hx
      subst hx
      simp only [List.set_cons_zero, List.mem_cons]
      constructor
      · rintro (rfl | hz)
        · exact .inl rfl
        · exact .inr ⟨.inr hz, fun e => (h1 z hz).1 (by rw [e])⟩
      · rintro (rfl | ⟨rfl | hz, hne⟩)
        · exact .inl rfl
        · exact absurd rfl hne
        · exact .inr hz
    | succ j =>
      simp at hx
      simp only [List.set_cons_succ, List.mem_cons, ih hx h2]
      have hxl : x ∈ l := List.mem_of_getElem? hx
      constructor
      · rintro (rfl | rfl | ⟨hz, hne⟩)
        · exact .inr ⟨.inl rfl, fun e => (h1 x hxl).1 (by rw [← e])⟩
        · exact .inl rfl
        · exact .inr ⟨.inr hz, hne⟩
      · rintro (rfl | ⟨rfl | hz, hne⟩)
        · exact .inr (.inl rfl)
        · exact .inl rfl
        · exact .inr (.inr ⟨hz, hne⟩)

theorem Rep.set [DecidableEq K] (K' : KeyT P kt enc) {es : Array MapEntry} {c j : Nat} {x : MapEntry} {k : K} (h : Rep enc es.toList c f) (hx : es.toList[j]? = some x) (hk : x.key = enc k) (v : Value) (g : MapEntry → MapEntry) (hg : g x = { x with key := enc k, val := v }) :
    Rep enc (es.modify j g).toList c (upd f k v) := by
  obtain ⟨h1, h2, h3, h4⟩ := h
  rw [mem_modify hx, hg]
  have hkx : ({ x with key := enc k, val := v } : MapEntry).key = x.key := by rw [hk]
  have hm := fun z => mem_set_iff (y := { x with key := enc k, val := v }) hx h2 z
  refine ⟨?_, pairwise_set hx hkx rfl h2, ?_, ?_⟩
  · intro z hz
    rcases (hm z).1 hz with rfl | ⟨hz, _⟩
    · exact ⟨k, rfl⟩
    · exact h1 z hz
  · intro z hz
    rcases (hm z).1 hz with rfl | ⟨hz, _⟩
    · exact h3 x (List.mem_of_getElem? hx)
    · exact h3 z hz
  · intro k' v'
    unfold upd
    by_cases hkk : k' = k
    · subst hkk
      simp only [if_true]
      constructor
      · intro e; injection e with e; subst e
        exact ⟨_, (hm _).2 (.inl rfl), rfl, rfl⟩
      · rintro ⟨z, hz, hzk, hzv⟩
        rcases (hm z).1 hz with rfl | ⟨hz, hne⟩
        · simp at hzv; rw [hzv]
        · exact absurd (pair_eq h2 hz (List.mem_of_getElem? hx) (.inl (hzk.trans hk.symm))) hne
    · rw [if_neg hkk, h4]
      constructor
      · rintro ⟨z, hz, hzk, hzv⟩
        exact ⟨z, (hm z).2 (.inr ⟨hz, fun e => hkk (K'.inj _ _ (by rw [← hzk, e, hk]))⟩), hzk, hzv⟩
      · rintro ⟨z, hz, hzk, hzv⟩
        rcases (hm z).1 hz with rfl | ⟨hz, hne⟩
        · exact absurd (K'.inj _ _ hzk.symm) hkk
        · exact ⟨z, hz, hzk, hzv⟩

theorem Rep.push [DecidableEq K] (K' : KeyT P kt enc) {es : Array MapEntry} {c : Nat} {k : K} (h : Rep enc es.toList c f) (hk : ∀ x ∈ es.toList, x.key ≠ enc k) (v : Value) :
    Rep enc (es.push { key := enc k, val := v, born := c }).toList (c + 1) (upd f k v) := by
  obtain ⟨h1, h2, h3, h4⟩ := h
  rw [Array.toList_push]
  refine ⟨?_, ?_, ?_, ?_⟩
  · intro z hz
    rcases List.mem_append.1 hz with hz | hz
    · exact h1 z hz
    · simp at hz; subst hz; exact ⟨k, rfl⟩
  · refine List.pairwise_append.2 ⟨h2, by simp, fun a ha b' hb' => ?_⟩
    simp at hb'; subst hb'
    exact ⟨hk a ha, fun e => by have := h3 a ha; simp at e; omega⟩
  · intro z hz
    rcases List.mem_append.1 hz with hz | hz
    · exact Nat.lt_succ_of_lt (h3 z hz)
    · simp at hz; subst hz; exact Nat.lt_succ_self _
  · intro k' v'
    unfold upd
    by_cases hkk : k' = k
    · subst hkk
      simp only [if_true]
      constructor
      · intro e; injection e with e; subst e
        exact ⟨_, List.mem_append.2 (.inr (List.mem_singleton.2 rfl)), rfl, rfl⟩
      · rintro ⟨z, hz, hzk, hzv⟩
        rcases List.mem_append.1 hz with hz | hz
        · exact absurd hzk (hk z hz)
        · simp at hz; subst hz; simp at hzv; rw [hzv]
    · rw [if_neg hkk, h4]
      constructor
      · rintro ⟨z, hz, hzk, hzv⟩
        exact ⟨z, List.mem_append.2 (.inl hz), hzk, hzv⟩
      · rintro ⟨z, hz, hzk, hzv⟩
        rcases List.mem_append.1 hz with hz | hz
        · exact ⟨z, hz, hzk, hzv⟩
        · simp at hz; subst hz
          exact absurd (K'.inj _ _ hzk.symm) hkk

/-- 'm[k] = v'. -/
theorem MapFn.update [DecidableEq K] (K' : KeyT P kt enc) (ht : P.underlying t = some (.map kt e)) (h : MapFn enc w b f) (k : K) (v : Value) :
    ∃ w', (Instr.mapUpdate t (.map (some b)) (enc k) v).run P w = .ok () w' ∧ MapFn enc w' b (upd f k v) ∧ w.grownBy w' (some b) ∧ w'.heap.size = w.heap.size := by
  have hlt := h.lt
  obtain ⟨es, cl, hb, hR⟩ := h
  rcases K'.find w k es.toList hR.1 with ⟨h1, h2⟩ | ⟨j, x, h1, h2, h3⟩
  · refine ⟨{ w with heap := w.heap.setIfInBounds b (.map (es.push { key := enc k, val := v, born := cl }) (cl + 1)) }, ?_, ⟨_, _, heap_setObj _ hlt, hR.push K' h2 v⟩, grownBy_setObj _, by simp⟩
    simp [Instr.mapUpdate, run_underlying ht, MapKept.run_getObj_map hb, K'.check, h1, Result.andThen, MapKept.run_setObj_map _ hb]
  · have hj : es[j]? = some x := by rw [← Array.getElem?_toList]; exact h2
    refine ⟨{ w with heap := w.heap.setIfInBounds b (.map (es.modify j fun e => { e with key := enc k, val := v }) cl) }, ?_, ⟨_, _, heap_setObj _ hlt, hR.set K' h2 h3 v _ rfl⟩, grownBy_setObj _, by simp⟩
    simp [Instr.mapUpdate, run_underlying ht, MapKept.run_getObj_map hb, K'.check, h1, Result.andThen, hj, h3, K'.stays, MapKept.run_setObj_map _ hb]

/-- 'm[k] op= ..': the entry is there, or is laid; its stamp. -/
theorem MapFn.entry [DecidableEq K] (K' : KeyT P kt enc) (ht : P.underlying t = some (.map kt e)) {z : Value} (hz : (zeroValue e).run P w = .ok z w) (h : MapFn enc w b f) (k : K) :
    ∃ (w' : World) (st : Nat), (Instr.mapEntry t (.map (some b)) (enc k)).run P w = .ok (.tuple #[(f k).getD z, goInt st]) w' ∧ MapFn enc w' b (upd f k ((f k).getD z)) ∧ Stamp enc w' b st k ∧ w.grownBy w' (some b) ∧ w'.heap.size = w.heap.size := by
  have hlt := h.lt
  obtain ⟨es, cl, hb, hR⟩ := h
  rcases K'.find w k es.toList hR.1 with ⟨h1, h2⟩ | ⟨j, x, h1, h2, h3⟩
  · have hf := hR.none_of h2
    refine ⟨{ w with heap := w.heap.setIfInBounds b (.map (es.push { key := enc k, val := z, born := cl }) (cl + 1)) }, cl, ?_, ?_, ⟨_, _, heap_setObj _ hlt, _, by rw [Array.toList_push]; exact List.mem_append.2 (.inr (List.mem_singleton.2 rfl)), rfl, rfl⟩, grownBy_setObj _, by simp⟩
    · simp [Instr.mapEntry, run_underlying ht, MapKept.run_getObj_map hb, K'.check, h1, hz, Result.andThen, MapKept.run_setObj_map _ hb, hf]
    · rw [hf]; exact ⟨_, _, heap_setObj _ hlt, hR.push K' h2 z⟩
  · have hf := hR.some_of (List.mem_of_getElem? h2) h3
    have hj : es[j]? = some x := by rw [← Array.getElem?_toList]; exact h2
    refine ⟨{ w with heap := w.heap.setIfInBounds b (.map (es.modify j fun e => { e with key := enc k }) cl) }, x.born, ?_, ?_, ⟨_, _, heap_setObj _ hlt, { x with key := enc k }, ?_, rfl, rfl⟩, grownBy_setObj _, by simp⟩
    · simp [Instr.mapEntry, run_underlying ht, MapKept.run_getObj_map hb, K'.check, h1, Result.andThen, hj, h3, K'.stays, MapKept.run_setObj_map _ hb, hf]
    · rw [hf]; exact ⟨_, _, heap_setObj _ hlt, hR.set K' h2 h3 x.val _ rfl⟩
    · rw [mem_modify h2]
      exact List.mem_set (by have := (List.getElem?_eq_some_iff.1 h2).1; exact this) _

theorem MapFn.store [DecidableEq K] (K' : KeyT P kt enc) (h : MapFn enc w b f) {st : Nat} {k : K} (hs : Stamp enc w b st k) (v : Value) :
    ∃ w', (Instr.entryStore t (.map (some b)) (goInt st) v).run P w = .ok () w' ∧ MapFn enc w' b (upd f k v) ∧ w.grownBy w' (some b) ∧ w'.heap.size = w.heap.size := by
  have hlt := h.lt
  obtain ⟨es, cl, hb, hR⟩ := h
  obtain ⟨es', cl', hb', x, hx, hst, hk⟩ := hs
  rw [hb] at hb'
  injection hb' with hb'
  injection hb' with e1 e2
  subst e1 e2
  cases hfi : es.findIdx? (fun e => (e.born : Int) == (st : Int)) with
  | none =>
    have := Array.findIdx?_eq_none_iff.1 hfi x (by simpa using hx)
    simp [hst] at this
  | some j =>
    obtain ⟨hj, hpj, _⟩ := Array.findIdx?_eq_some_iff_getElem.1 hfi
    have hjx : es[j] = x := by
      refine pair_eq hR.2.1 (by simp) hx (.inr ?_)
      simp at hpj
      omega
    have h2 : es.toList[j]? = some x := by simp [hj, hjx]
    refine ⟨{ w with heap := w.heap.setIfInBounds b (.map (es.modify j fun e => { e with val := v }) cl) }, ?_, ⟨_, _, heap_setObj _ hlt, hR.set K' h2 hk v _ (by rw [← hk])⟩, grownBy_setObj _, by simp⟩
    simp [Instr.entryStore, MapKept.run_getObj_map hb, asInt, asIntOf, goInt, Result.andThen, hfi, MapKept.run_setObj_map _ hb]
end
end Go.Proofs.YtnhcpflenajeaaaDoor.Mem

/- The laws on maps as functions at the operations themselves, for the walk, outside a fence and inside one. No program in sight. -/
set_option linter.unusedVariables false
set_option linter.unusedSimpArgs false
namespace Go.Proofs.YtnhcpflenajeaaaDoor.Mem
open Go Go.RowKit
section
variable {P : Program} {kt t e : TypeId} {K : Type} {enc : K → Value} {w : World} {b : Nat} {f : K → Option Value} {ops : Array Oper} {rest : List Oper} {o : Oper} {a : Act} {Q : Exit → Act → World → Prop}

theorem arm_lookup (hg : o.guard = none) (m x : Operand) (c : Bool) (hop : o.op = Op.lookup t m x c) (K' : KeyT P kt enc) (ht : P.underlying t = some (.map kt e)) {z : Value} (hz : (zeroValue e).run P w = .ok z w)
    (hm : a.eval m = .map (some b)) (h : MapFn enc w b f) (k : K) (hx : a.eval x = enc k)
    (hK : wpList P ops Q rest (a.put o.dst (if c then .tuple #[(f k).getD z, .bool (f k).isSome] else (f k).getD z)) w) : wpList P ops Q (o :: rest) a w := by
  refine wpList_plain hg fun K1 hK1 => ?_
  have hrun := h.look K' ht hz k c
  unfold Oper.wp
  simp only [execOp, hop, hm, hx]
  simp [hrun, Result.andThen]
  exact hK1 _ _ hK

theorem arm_update [DecidableEq K] (hg : o.guard = none) (m x v : Operand) (hop : o.op = Op.mapUpdate t m x v ∨ o.op = Op.insert t m x v) (K' : KeyT P kt enc) (ht : P.underlying t = some (.map kt e))
    (hm : a.eval m = .map (some b)) (h : MapFn enc w b f) (k : K) (hx : a.eval x = enc k) (val : Value) (hv : a.eval v = val)
    (hK : ∀ w', MapFn enc w' b (upd f k val) → w.grownBy w' (some b) → w'.heap.size = w.heap.size → wpList P ops Q rest (a.put o.dst undef) w') : wpList P ops Q (o :: rest) a w := by
  refine wpList_plain hg fun K1 hK1 => ?_
  obtain ⟨w', hrun, r1, r2, r3⟩ := h.update K' ht k val
  unfold Oper.wp
  rcases hop with hop | hop
  all_goals
    simp only [execOp, hop, hm, hx, hv]
    simp [hrun, Result.andThen]
    exact hK1 _ _ (hK w' r1 r2 r3)

theorem arm_entry [DecidableEq K] (hg : o.guard = none) (m x : Operand) (hop : o.op = Op.mapEntry t m x) (K' : KeyT P kt enc) (ht : P.underlying t = some (.map kt e)) {z : Value} (hz : (zeroValue e).run P w = .ok z w)
    (hm : a.eval m = .map (some b)) (h : MapFn enc w b f) (k : K) (hx : a.eval x = enc k)
    (hK : ∀ (w' : World) (st : Nat), MapFn enc w' b (upd f k ((f k).getD z)) → Stamp enc w' b st k → w.grownBy w' (some b) → w'.heap.size = w.heap.size → wpList P ops Q rest (a.put o.dst (.tuple #[(f k).getD z, goInt st])) w') : wpList P ops Q (o :: rest) a w := by
  refine wpList_plain hg fun K1 hK1 => ?_
  obtain ⟨w', st, hrun, r1, r2, r3, r4⟩ := h.entry K' ht hz k
  unfold Oper.wp
  simp only [execOp, hop, hm, hx]
  simp [hrun, Result.andThen]
  exact hK1 _ _ (hK w' st r1 r2 r3 r4)

theorem arm_store [DecidableEq K] (hg : o.guard = none) (m s v : Operand) (hop : o.op = Op.entryStore t m s v) (K' : KeyT P kt enc)
    (hm : a.eval m = .map (some b)) (h : MapFn enc w b f) {st : Nat} {k : K} (hst : Stamp enc w b st k) (hs : a.eval s = goInt st) (val : Value) (hv : a.eval v = val)
    (hK : ∀ w', MapFn enc w' b (upd f k val) → w.grownBy w' (some b) → w'.heap.size = w.heap.size → wpList P ops Q rest (a.put o.dst undef) w') : wpList P ops Q (o :: rest) a w := by
  refine wpList_plain hg fun K1 hK1 => ?_
  obtain ⟨w', hrun, r1, r2, r3⟩ := h.store (t := t) K' hst val
  unfold Oper.wp
  simp only [execOp, hop, hm, hs, hv]
  simp [hrun, Result.andThen]
  exact hK1 _ _ (hK w' r1 r2 r3)
end

section
variable {F : Fence} {nF : Nat} {P : Program} {kt t e : TypeId} {K : Type} {enc : K → Value} {w : World} {b : Nat} {f : K → Option Value} {ops : Array Oper} {rest : List Oper} {o : Oper} {a : Act} {Q : Exit → Act → World → Prop}

theorem armIn_lookup (hg : o.guard = none) (m x : Operand) (c : Bool) (hop : o.op = Op.lookup t m x c) (K' : KeyT P kt enc) (ht : P.underlying t = some (.map kt e)) {z : Value} (hz : (zeroValue e).run P w = .ok z w)
    (hm : a.eval m = .map (some b)) (h : MapFn enc w b f) (k : K) (hx : a.eval x = enc k)
    (hK : wpListIn F nF P ops Q rest (a.put o.dst (if c then .tuple #[(f k).getD z, .bool (f k).isSome] else (f k).getD z)) w) : wpListIn F nF P ops Q (o :: rest) a w := by
  refine wpListIn_plain hg fun K1 hK1 => ?_
  have hrun := h.look K' ht hz k c
  unfold Oper.wpIn
  refine ⟨by simp [Oper.about, hop], ?_⟩
  rw [Oper.semAt_plain F _ _ (by rw [hop]; intro c hc'; cases hc')]
  simp only [execOp, hop, hm, hx]
  simp [hrun, Result.andThen]
  exact hK1 _ _ hK

theorem armIn_update [DecidableEq K] (hg : o.guard = none) (m x v : Operand) (hop : o.op = Op.mapUpdate t m x v ∨ o.op = Op.insert t m x v) (K' : KeyT P kt enc) (ht : P.underlying t = some (.map kt e))
    (hm : a.eval m = .map (some b)) (h : MapFn enc w b f) (k : K) (hx : a.eval x = enc k) (val : Value) (hv : a.eval v = val)
    (hK : ∀ w', MapFn enc w' b (upd f k val) → w.grownBy w' (some b) → w'.heap.size = w.heap.size → wpListIn F nF P ops Q rest (a.put o.dst undef) w') : wpListIn F nF P ops Q (o :: rest) a w := by
  refine wpListIn_plain hg fun K1 hK1 => ?_
  obtain ⟨w', hrun, r1, r2, r3⟩ := h.update K' ht k val
  unfold Oper.wpIn
  rcases hop with hop | hop
  all_goals
    refine ⟨by simp [Oper.about, hop], ?_⟩
    rw [Oper.semAt_plain F _ _ (by rw [hop]; intro c hc'; cases hc')]
    simp only [execOp, hop, hm, hx, hv]
    simp [hrun, Result.andThen]
    exact hK1 _ _ (hK w' r1 r2 r3)
end

/-! ### At a step of a region that draws its order -/
section
variable {P : Program} {kt t e : TypeId} {K : Type} {enc : K → Value} {w : World} {b : Nat} {f : K → Option Value} {ops : Array Oper} {o : Oper} {a : Act} {Kc : Act → World → Prop} {Q : Exit → Act → World → Prop} {E : Prop}

theorem step_run {w1 : World} {v : Value} (hg : o.guard = none) (hrun : (execOp a.eval o).run P w = .ok (.value v) w1) (h : Kc (a.put o.dst v) w1) :
    if Region.wanted o (yielded ops a.tmps) = true then Oper.wp P o a w Kc Q else E := by
  rw [if_pos (by simp [Region.wanted, hg])]
  unfold Oper.wp
  rw [hrun]
  exact h

theorem step_lookup (hg : o.guard = none) (m x : Operand) (c : Bool) (hop : o.op = Op.lookup t m x c) (K' : KeyT P kt enc) (ht : P.underlying t = some (.map kt e)) {z : Value} (hz : (zeroValue e).run P w = .ok z w)
    (hm : a.eval m = .map (some b)) (h : MapFn enc w b f) (k : K) (hx : a.eval x = enc k)
    (hK : Kc (a.put o.dst (if c then .tuple #[(f k).getD z, .bool (f k).isSome] else (f k).getD z)) w) : if Region.wanted o (yielded ops a.tmps) = true then Oper.wp P o a w Kc Q else E := by
  have hrun := h.look K' ht hz k c
  refine step_run hg (v := (if c then .tuple #[(f k).getD z, .bool (f k).isSome] else (f k).getD z)) (w1 := w) ?_ hK
  simp only [execOp, hop, hm, hx]
  simp [hrun, Result.andThen]

theorem step_entry [DecidableEq K] (hg : o.guard = none) (m x : Operand) (hop : o.op = Op.mapEntry t m x) (K' : KeyT P kt enc) (ht : P.underlying t = some (.map kt e)) {z : Value} (hz : (zeroValue e).run P w = .ok z w)
    (hm : a.eval m = .map (some b)) (h : MapFn enc w b f) (k : K) (hx : a.eval x = enc k)
    (hK : ∀ (w' : World) (st : Nat), MapFn enc w' b (upd f k ((f k).getD z)) → Stamp enc w' b st k → w.grownBy w' (some b) → w'.heap.size = w.heap.size → Kc (a.put o.dst (.tuple #[(f k).getD z, goInt st])) w') : if Region.wanted o (yielded ops a.tmps) = true then Oper.wp P o a w Kc Q else E := by
  obtain ⟨w', st, hrun, r1, r2, r3, r4⟩ := h.entry K' ht hz k
  refine step_run hg (v := .tuple #[(f k).getD z, goInt st]) (w1 := w') ?_ (hK w' st r1 r2 r3 r4)
  simp only [execOp, hop, hm, hx]
  simp [hrun, Result.andThen]

theorem step_skip {w1 : World} (hg : o.guard = none) (hrun : (execOp a.eval o).run P w = .ok .skip w1) (h : Kc (a.put o.dst undef) w1) :
    if Region.wanted o (yielded ops a.tmps) = true then Oper.wp P o a w Kc Q else E := by
  rw [if_pos (by simp [Region.wanted, hg])]
  unfold Oper.wp
  rw [hrun]
  exact h

theorem step_store [DecidableEq K] (hg : o.guard = none) (m s v : Operand) (hop : o.op = Op.entryStore t m s v) (K' : KeyT P kt enc)
    (hm : a.eval m = .map (some b)) (h : MapFn enc w b f) {st : Nat} {k : K} (hst : Stamp enc w b st k) (hs : a.eval s = goInt st) (val : Value) (hv : a.eval v = val)
    (hK : ∀ w', MapFn enc w' b (upd f k val) → w.grownBy w' (some b) → w'.heap.size = w.heap.size → Kc (a.put o.dst undef) w') : if Region.wanted o (yielded ops a.tmps) = true then Oper.wp P o a w Kc Q else E := by
  obtain ⟨w', hrun, r1, r2, r3⟩ := h.store (t := t) K' hst val
  refine step_skip hg (w1 := w') ?_ (hK w' r1 r2 r3)
  simp only [execOp, hop, hm, hs, hv]
  simp [hrun, Result.andThen]

theorem step_append (hgd : o.guard = none) (s x : Operand) (t : TypeId)
    (ho : o.op = .call { callee := .builtin .append, args := #[s, x], argTypes := #[t, t] })
    (base : Nat) (e : TypeId) (i : TypeInfo) (z : Value) (size bytes : Nat) (ht : P.underlying t = some (.slice e)) (hi : P.info? e = some i) (hz : i.zero = some z)
    (hsize : i.size = size) (hby : i.bytes = bytes) (hzs : z.cells.size = size) (hsz : 0 < size)
    (v : Value) (n : Nat) (xs : List Value) (hs : a.eval s = v) (hown : w.ownsRow base e size v n xs)
    (ad : Addr) (m c : Nat) (news : List Value) (hx : a.eval x = .slice (some ad) m c) (hl : news.length = m * size) (hnews : ∀ j u, news[j]? = some u → w.cell? (ad.add j) = some u) (h1 : ∀ u ∈ news, u.oneCell' = true)
    (h63 : n + m ≤ maxLen) (hbytes : (n + m) * bytes ≤ 140737488355328) (hbase : base ≤ w.heap.size)
    (h : ∀ v' w', w'.ownsRow base e size v' (n + m) (xs ++ news) → w.grownBy w' v.ownBlock → (v'.ownBlock = v.ownBlock ∨ v'.ownBlock = some w.heap.size) → Kc (a.put o.dst v') w') :
    if Region.wanted o (yielded ops a.tmps) = true then Oper.wp P o a w Kc Q else E := by
  obtain ⟨v', w', hr, h2, h3, _, h5⟩ := run_append_own_at (P := P) w base t o.type e i z size bytes ht hi hz hsize hby hzs hsz v n xs hown ad m c news hl hnews h1 h63 hbytes hbase
  refine step_run hgd (v := v') (w1 := w') ?_ (h v' w' h2 h3 h5)
  unfold execOp
  simp only [ho, resolve, invoke, builtin, Sem.run_bind, Sem.run_pure, Result.andThen_ok, List.map_toArray, List.map_cons, List.map_nil, hs, hx, hr]
end
end Go.Proofs.YtnhcpflenajeaaaDoor.Mem

/- The keys of the crowd's maps: stands, knots, whole numbers. -/
set_option linter.unusedVariables false
namespace Go.Proofs.YtnhcpflenajeaaaDoor
open Go.RowKit Go.Proofs.YtnhcpflenajeaaaDoorW.PrintWords Mem

structure Knot where
  p : Int
  m : Int
  e : Int
  deriving DecidableEq
structure Stand where
  p : Int
  m : Int
  deriving DecidableEq
def kv (k : Knot) : Value := .agg #[.int .i64 k.p, .int .i64 k.m, .int .i64 k.e]
def sv (k : Stand) : Value := .agg #[.int .i64 k.p, .int .i64 k.m]

theorem sv_inj (a b : Stand) (h : sv a = sv b) : a = b := by
  cases a; cases b; simp [sv] at h; simp [h]
theorem kv_inj (a b : Knot) (h : kv a = kv b) : a = b := by
  cases a; cases b; simp [kv] at h; simp [h]

theorem eqA89 (d : Nat) (w : World) (x0 y0 x1 y1 x2 y2 : Int) :
    (Op.equalIn (d + 3) 89 (.agg #[.int .i64 x0, .int .i64 x1, .int .i64 x2]) (.agg #[.int .i64 y0, .int .i64 y1, .int .i64 y2])).run Tryd.prog w = .ok ((x0 == y0 && (x1 == y1)) && (x2 == y2)) w := by
  refine eqA_of Tryd.underlying89 (by kernel_rfl) ?_
  refine eqf_cons (by rfl) (by first | (go_simp; done) | (go_simp; rfl)) (by first | (go_simp; done) | (go_simp; rfl)) (PCrowdMost.eqA46 d w x0 y0 x1 y1) ?_
  exact eqf_last (by rfl) (by go_simp; rfl) (by go_simp; rfl) (by go_simp)

theorem eq46 (w : World) (a b : Stand) : (Op.equal 46 (sv a) (sv b)).run Tryd.prog w = .ok (decide (a = b)) w := by
  have h := PCrowdMost.eqA46 9998 w a.p b.p a.m b.m
  have e : (a.p == b.p && (a.m == b.m)) = decide (a = b) := by
    rw [Bool.eq_iff_iff]
    cases a; cases b; simp
  rw [e] at h
  exact h
theorem eq89 (w : World) (a b : Knot) : (Op.equal 89 (kv a) (kv b)).run Tryd.prog w = .ok (decide (a = b)) w := by
  have h := eqA89 9997 w a.p b.p a.m b.m a.e b.e
  have e : ((a.p == b.p && (a.m == b.m)) && (a.e == b.e)) = decide (a = b) := by
    rw [Bool.eq_iff_iff]
    cases a; cases b; simp [and_assoc]
  rw [e] at h
  exact h

theorem check46 (w : World) (em : Bool) (k : Stand) : (Instr.checkKey em 10000 46 (sv k)).run Tryd.prog w = .ok () w := by
  unfold sv; kernel_rfl
theorem check89 (w : World) (em : Bool) (k : Knot) : (Instr.checkKey em 10000 89 (kv k)).run Tryd.prog w = .ok () w := by
  unfold kv; kernel_rfl
theorem key46 : KeyT Tryd.prog 46 sv := KeyT.of_struct Tryd.underlying46 sv_inj eq46 check46 (fun k => by simp [sv, Instr.sameBits])
theorem key89 : KeyT Tryd.prog 89 kv := KeyT.of_struct Tryd.underlying89 kv_inj eq89 check89 (fun k => by simp [kv, Instr.sameBits])
def iv (n : Int) : Value := .int .i64 n
theorem key3 : KeyT Tryd.prog 3 iv := KeyT.of_int Tryd.underlying3
theorem zero3 (w : World) : (zeroValue 3).run Tryd.prog w = .ok (.int .i64 0) w := by kernel_rfl
theorem zero4 (w : World) : (zeroValue 4).run Tryd.prog w = .ok (.bool false) w := by kernel_rfl
theorem zero99 (w : World) : (zeroValue 99).run Tryd.prog w = .ok (.pointer none) w := by kernel_rfl
theorem zero100 (w : World) : (zeroValue 100).run Tryd.prog w = .ok (.slice none 0 0) w := by kernel_rfl
end Go.Proofs.YtnhcpflenajeaaaDoor

/- The network of the program in memory: a map from knots to slices of pointers to arcs; each arc with its way back. -/
set_option linter.unusedVariables false
set_option linter.unusedSimpArgs false
namespace Go.Proofs.YtnhcpflenajeaaaDoor
open Go.RowKit Go.Proofs.YtnhcpflenajeaaaDoorW.PrintWords Mem

/-- An arc: from a knot to another one, and how many more can go along it. -/
structure Arc where
  src : Knot
  dst : Knot
  left : Int

def flip (i : Nat) : Nat := if i % 2 = 0 then i + 1 else i - 1
theorem flip_flip (i : Nat) : flip (flip i) = i := by unfold flip; split <;> split <;> omega
theorem flip_lt {i n : Nat} (h : i < n) (hn : n % 2 = 0) : flip i < n := by unfold flip; split <;> omega
theorem flip_ne (i : Nat) : flip i ≠ i := by unfold flip; split <;> omega

/-- The places of the arcs out of a knot, from place n on. -/
def adjF (k : Knot) : Nat → List Arc → List Nat
  | _, [] => []
  | n, a :: l => if a.src = k then n :: adjF k (n + 1) l else adjF k (n + 1) l
def adj (A : List Arc) (k : Knot) : List Nat := adjF k 0 A
theorem adjF_append (k : Knot) : ∀ (n : Nat) (l m : List Arc), adjF k n (l ++ m) = adjF k n l ++ adjF k (n + l.length) m
  | n, [], m => by simp [adjF]
  | n, a :: l, m => by
    have := adjF_append k (n + 1) l m
    simp only [List.cons_append, adjF, this, List.length_cons]
    rw [show n + 1 + l.length = n + (l.length + 1) by omega]
    split <;> simp
theorem mem_adjF (k : Knot) : ∀ (n : Nat) (l : List Arc) (i : Nat), i ∈ adjF k n l ↔ ∃ j, i = n + j ∧ ∃ a, l[j]? = some a ∧ a.src = k
  | n, [], i => by simp [adjF]
  | n, a :: l, i => by
    have ih := mem_adjF k (n + 1) l i
    unfold adjF
    constructor
    · intro h
      by_cases ha : a.src = k
      · rw [if_pos ha] at h
        rcases List.mem_cons.1 h with rfl | h
        · exact ⟨0, rfl, a, rfl, ha⟩
        · obtain ⟨j, rfl, b, hb, hs⟩ := ih.1 h
          exact ⟨j + 1, by omega, b, by simpa using hb, hs⟩
      · rw [if_neg ha] at h
        obtain ⟨j, rfl, b, hb, hs⟩ := ih.1 h
        exact ⟨j + 1, by omega, b, by simpa using hb, hs⟩
    · rintro ⟨j, rfl, b, hb, hs⟩
      cases j with
      | zero =>
        simp at hb
        subst hb
        rw [if_pos hs]
        simp
      | succ j =>
        have : n + (j + 1) ∈ adjF k (n + 1) l := ih.2 ⟨j, by omega, b, by simpa using hb, hs⟩
        split
        · exact List.mem_cons_of_mem _ this
        · exact this
theorem mem_adj {A : List Arc} {k : Knot} {i : Nat} : i ∈ adj A k ↔ ∃ a, A[i]? = some a ∧ a.src = k := by
  unfold adj
  rw [mem_adjF]
  constructor
  · rintro ⟨j, rfl, a, h1, h2⟩
    exact ⟨a, by simpa using h1, h2⟩
  · rintro ⟨a, h1, h2⟩
    exact ⟨i, by omega, a, h1, h2⟩
theorem adjF_length (k : Knot) : ∀ (n : Nat) (l : List Arc), (adjF k n l).length ≤ l.length
  | _, [] => by simp [adjF]
  | n, a :: l => by
    have := adjF_length k (n + 1) l
    unfold adjF
    split <;> simp <;> omega

def ptr (g : Nat) : Value := .pointer (some ⟨g, 0, none⟩)
/-- An arc's block. -/
def arcObj (a : Arc) (back : Nat) : Obj := .cells #[.int .i64 a.dst.p, .int .i64 a.dst.m, .int .i64 a.dst.e, .int .i64 a.left, ptr back] 102 (0, 0)

/-- A map from knots to slices of the call's own. -/
structure RowsMem (w : World) (base top b : Nat) (f : Knot → Option Value) (R : Knot → List Value) : Prop where
  lo : base ≤ b
  hi : b < top
  size : top ≤ w.heap.size
  map : MapFn kv w b f
  rows : ∀ k v, f k = some v → w.ownsRow base 99 1 v (R k).length (R k) ∧ ∀ g, v.ownBlock = some g → g < top
  none : ∀ k, f k = Option.none → R k = []
  apart : ∀ k k' v v', k ≠ k' → f k = some v → f k' = some v' → ∀ g, v.ownBlock = some g → v'.ownBlock ≠ some g

theorem own_fr {w w' : World} {S : Nat → Prop} {base : Nat} {e : TypeId} {size n : Nat} {v : Value} {xs : List Value} (h : w.ownsRow base e size v n xs) (hg : Fr S w w') (hS : ∀ g, v.ownBlock = some g → ¬ S g) : w'.ownsRow base e size v n xs := by
  refine ⟨h.1, ?_⟩
  rcases h.2 with hn | ⟨g, cap, cur, rfl, hb, hgg, rest⟩
  · exact .inl hn
  · exact .inr ⟨g, cap, cur, rfl, hb, hg.heap hgg (hS g rfl), rest⟩
theorem own_ne_map {K : Type} {enc : K → Value} {w : World} {base : Nat} {e : TypeId} {size n b : Nat} {v : Value} {xs : List Value} {f : K → Option Value} (h : w.ownsRow base e size v n xs) (hm : MapFn enc w b f) : v.ownBlock ≠ some b := by
  intro hb
  rcases h.2 with ⟨rfl, _⟩ | ⟨g, cap, cur, rfl, _, hgg, _⟩
  · simp [Value.ownBlock] at hb
  · simp [Value.ownBlock] at hb
    subst hb
    obtain ⟨es, c, h1, _⟩ := hm
    rw [h1] at hgg
    cases hgg

theorem RowsMem.fr {w w' : World} {base top b : Nat} {f : Knot → Option Value} {R : Knot → List Value} {S : Nat → Prop} (h : RowsMem w base top b f R) (hg : Fr S w w') (hS : ∀ k, base ≤ k → k < top → ¬ S k) : RowsMem w' base top b f R where
  lo := h.lo
  hi := h.hi
  size := Nat.le_trans h.size hg.size
  map := h.map.fr hg (hS b h.lo h.hi)
  rows k v hf := by
    obtain ⟨h1, h2⟩ := h.rows k v hf
    exact ⟨own_fr h1 hg (fun g hg' => hS g (own_base h1 g hg') (h2 g hg')), h2⟩
  none := h.none
  apart := h.apart
theorem RowsMem.up {w : World} {base top b : Nat} {f : Knot → Option Value} {R : Knot → List Value} (h : RowsMem w base top b f R) {top' : Nat} (h1 : top ≤ top') (h2 : top' ≤ w.heap.size) : RowsMem w base top' b f R :=
  ⟨h.lo, Nat.lt_of_lt_of_le h.hi h1, h2, h.map, fun k v hf => ⟨(h.rows k v hf).1, fun g hg => Nat.lt_of_lt_of_le ((h.rows k v hf).2 g hg) h1⟩, h.none, h.apart⟩

/-- The row of a knot, nil where there is none. -/
def rowOf (f : Knot → Option Value) (k : Knot) : Value := (f k).getD (.slice Option.none 0 0)
theorem RowsMem.row {w : World} {base top b : Nat} {f : Knot → Option Value} {R : Knot → List Value} (h : RowsMem w base top b f R) (k : Knot) : w.ownsRow base 99 1 (rowOf f k) (R k).length (R k) ∧ (∀ g, (rowOf f k).ownBlock = some g → g < top) := by
  unfold rowOf
  cases hf : f k with
  | none =>
    rw [h.none k hf]
    exact ⟨World.ownsRow_nil _ _ _ _, by simp [Value.ownBlock]⟩
  | some v => exact h.rows k v hf

/-- 'm[k] = append(m[k], x)': the entry, the append, the store. -/
theorem RowsMem.push {w w1 w2 w3 : World} {base top b : Nat} {f : Knot → Option Value} {R : Knot → List Value} (h : RowsMem w base top b f R) (k : Knot) (x v' : Value)
    (g1 : w.grownBy w1 (some b))
    (h2 : w2.ownsRow base 99 1 v' (R k ++ [x]).length (R k ++ [x])) (g2 : w1.grownBy w2 (rowOf f k).ownBlock) (hat : v'.ownBlock = (rowOf f k).ownBlock ∨ ∃ g, v'.ownBlock = some g ∧ w1.heap.size ≤ g)
    (h3 : MapFn kv w3 b (upd (upd f k (rowOf f k)) k v')) (g3 : w2.grownBy w3 (some b)) :
    RowsMem w3 base w3.heap.size b (upd f k v') (fun y => if y = k then R k ++ [x] else R y) ∧ Fr (fun i => i = b ∨ some i = (rowOf f k).ownBlock) w w3 := by
  have hfr : Fr (fun i => i = b ∨ some i = (rowOf f k).ownBlock) w w3 :=
    (((Fr.refl _ w).grown g1 (fun i e => .inl (.inl (by injection e with e; exact e.symm)))).grown g2 (fun i e => .inl (.inr e.symm))).grown g3 (fun i e => .inl (.inl (by injection e with e; exact e.symm)))
  obtain ⟨hrow, hrt⟩ := h.row k
  have hfe : upd (upd f k (rowOf f k)) k v' = upd f k v' := by
    funext y; unfold upd; split <;> rfl
  rw [hfe] at h3
  have hnm : ∀ g, v'.ownBlock = some g → g ≠ b := by
    intro g hg e
    subst e
    have hb2 : w2.heap[g]? = w1.heap[g]? := g2.block g (by have := g1.size; have := h.hi; have := h.size; omega) (fun e => own_ne_map hrow h.map e.symm)
    rcases h2.2 with ⟨rfl, _⟩ | ⟨g', cap, cur, rfl, _, hgg, _⟩
    · simp [Value.ownBlock] at hg
    · simp [Value.ownBlock] at hg
      subst hg
      -- the block of the map is a map in w3, so it was one in w2 (what is written there is a map)
      rcases hat with hat | ⟨g2', hat, hle⟩
      · exact own_ne_map hrow h.map hat.symm
      · simp [Value.ownBlock] at hat
        have := g1.size; have := h.hi; have := h.size; omega
  have hv3 : w3.ownsRow base 99 1 v' (R k ++ [x]).length (R k ++ [x]) := h2.kept g3 (by
    rcases hvb : v'.ownBlock with _ | g
    · exact .inl rfl
    · exact .inr (fun e => hnm g hvb (by injection e)))
  have hother : ∀ y v, y ≠ k → f y = some v → ∀ g, v.ownBlock = some g → v'.ownBlock ≠ some g := by
    intro y v hy hv g hg hg'
    have hlt := (h.rows y v hv).2 g hg
    rcases hat with hat | ⟨g', hat, hle⟩
    · rw [hat] at hg'
      unfold rowOf at hg'
      cases hfk : f k with
      | none => rw [hfk] at hg'; simp [Value.ownBlock] at hg'
      | some u => rw [hfk] at hg'; exact h.apart y k v u hy hv hfk g hg hg'
    · rw [hat] at hg'
      injection hg' with hg'
      have := g1.size; have := h.size; omega
  refine ⟨⟨h.lo, by have := hfr.size; have := h.size; have := h.hi; omega, Nat.le_refl _, h3, ?_, ?_, ?_⟩, hfr⟩
  · intro y v hv
    unfold upd at hv
    by_cases hy : y = k
    · subst hy
      simp only [if_true] at hv ⊢
      injection hv with hv
      subst hv
      exact ⟨hv3, fun g hg => (hv3.lt g hg).2⟩
    · simp only [if_neg hy] at hv ⊢
      obtain ⟨r1, r2⟩ := h.rows y v hv
      refine ⟨own_fr r1 hfr (fun g hg => ?_), fun g hg => by have := r2 g hg; have := h.size; have := hfr.size; omega⟩
      rintro (e | e)
      · subst e; exact own_ne_map r1 h.map hg
      · unfold rowOf at e
        cases hfk : f k with
        | none => rw [hfk] at e; simp [Value.ownBlock] at e
        | some u => rw [hfk] at e; exact h.apart y k v u hy hv hfk g hg e.symm
  · intro y hy'
    unfold upd at hy'
    by_cases hy : y = k
    · simp [hy] at hy'
    · simp only [if_neg hy] at hy' ⊢
      exact h.none y hy'
  · intro y z v u hne hv hu g hg
    unfold upd at hv hu
    by_cases hy : y = k
    · subst hy
      simp only [if_true] at hv
      injection hv with hv
      subst hv
      rw [if_neg (Ne.symm hne)] at hu
      intro hg'
      exact hother z u (Ne.symm hne) hu g hg' hg
    · rw [if_neg hy] at hv
      by_cases hz : z = k
      · subst hz
        simp only [if_true] at hu
        injection hu with hu
        subst hu
        exact hother y v hy hv g hg
      · rw [if_neg hz] at hu
        exact h.apart y z v u hne hv hu g hg

/-- The network whole: the rows lead to the arcs' blocks, in order. -/
structure NetMem (w : World) (base top b : Nat) (A : List Arc) (bs : List Nat) (f : Knot → Option Value) : Prop where
  rm : RowsMem w base top b f (fun k => (adj A k).map fun i => ptr (bs.getD i 0))
  len : bs.length = A.length
  nd : bs.Nodup
  rng : ∀ g ∈ bs, base ≤ g ∧ g < top
  even : A.length % 2 = 0
  pair : ∀ (i : Nat) (a a' : Arc), A[i]? = some a → A[flip i]? = some a' → a'.src = a.dst ∧ a'.dst = a.src
  arcs : ∀ (i : Nat) (a : Arc) (g g' : Nat), A[i]? = some a → bs[i]? = some g → bs[flip i]? = some g' → w.heap[g]? = some (arcObj a g')

theorem NetMem.fr {w w' : World} {base top b : Nat} {A : List Arc} {bs : List Nat} {f : Knot → Option Value} {S : Nat → Prop} (h : NetMem w base top b A bs f) (hg : Fr S w w') (hS : ∀ k, base ≤ k → k < top → ¬ S k) : NetMem w' base top b A bs f where
  rm := h.rm.fr hg hS
  len := h.len
  nd := h.nd
  rng := h.rng
  even := h.even
  pair := h.pair
  arcs i a g g' ha hg1 hg2 := by
    have hm := List.mem_of_getElem? hg1
    exact hg.heap (h.arcs i a g g' ha hg1 hg2) (hS g (h.rng g hm).1 (h.rng g hm).2)

/-- Nothing yet. -/
theorem NetMem.new (w : World) (base : Nat) (hb : base ≤ w.heap.size) : NetMem (w.alloc (.map #[] 0)) base (w.heap.size + 1) w.heap.size [] [] (fun _ => Option.none) where
  rm := ⟨hb, by omega, by simp, MapFn.new w, by simp, by simp [adj, adjF], by simp⟩
  len := rfl
  nd := List.nodup_nil
  rng := by simp
  even := rfl
  pair := by simp
  arcs := by simp

/-- Two arcs more, each the other's way back. -/
theorem NetMem.grow {w w' : World} {base top b top' : Nat} {A : List Arc} {bs : List Nat} {f f' : Knot → Option Value} (h : NetMem w base top b A bs f) (s d : Knot) (room : Int) (g1 g2 : Nat)
    (hg1 : top ≤ g1) (hg2 : top ≤ g2) (hne : g1 ≠ g2) (hl1 : g1 < top') (hl2 : g2 < top')
    (hrm : RowsMem w' base top' b f' (fun y => if y = d then (if d = s then (adj A s).map (fun i => ptr (bs.getD i 0)) ++ [ptr g1] else (adj A d).map fun i => ptr (bs.getD i 0)) ++ [ptr g2] else if y = s then (adj A s).map (fun i => ptr (bs.getD i 0)) ++ [ptr g1] else (adj A y).map fun i => ptr (bs.getD i 0)))
    (ho : ∀ g ∈ bs, w'.heap[g]? = w.heap[g]?) (h1 : w'.heap[g1]? = some (arcObj ⟨s, d, room⟩ g2)) (h2 : w'.heap[g2]? = some (arcObj ⟨d, s, 0⟩ g1)) (hbl : base ≤ top) (htt : top ≤ top') :
    NetMem w' base top' b (A ++ [⟨s, d, room⟩, ⟨d, s, 0⟩]) (bs ++ [g1, g2]) f' := by
  have hlen := h.len
  have hev := h.even
  have hget : ∀ i, i ∈ adj A s ∨ True → True := fun _ _ => trivial
  have hmap : ∀ k, (adj A k).map (fun i => ptr ((bs ++ [g1, g2]).getD i 0)) = (adj A k).map (fun i => ptr (bs.getD i 0)) := by
    intro k
    apply List.map_congr_left
    intro i hi
    obtain ⟨a, ha, _⟩ := mem_adj.1 hi
    have hil : i < bs.length := by rw [hlen]; exact (List.getElem?_eq_some_iff.1 ha).1
    simp [List.getD_eq_getElem?_getD, List.getElem?_append_left hil]
  have hadj : ∀ k, adj (A ++ [⟨s, d, room⟩, ⟨d, s, 0⟩]) k = adj A k ++ (if s = k then [A.length] else []) ++ (if d = k then [A.length + 1] else []) := by
    intro k
    unfold adj
    rw [adjF_append]
    simp only [adjF, Nat.zero_add]
    split <;> split <;> simp
  have e1 : (bs ++ [g1, g2]).getD A.length 0 = g1 := by simp [← hlen, List.getD_eq_getElem?_getD]
  have e2 : (bs ++ [g1, g2]).getD (A.length + 1) 0 = g2 := by simp [← hlen, List.getD_eq_getElem?_getD]
  refine ⟨?_, by simp [hlen], ?_, ?_, by simp; omega, ?_, ?_⟩
  · have : (fun k => (adj (A ++ [⟨s, d, room⟩, ⟨d, s, 0⟩]) k).map fun i => ptr ((bs ++ [g1, g2]).getD i 0)) = (fun y => if y = d then (if d = s then (adj A s).map (fun i => ptr (bs.getD i 0)) ++ [ptr g1] else (adj A d).map fun i => ptr (bs.getD i 0)) ++ [ptr g2] else if y = s then (adj A s).map (fun i => ptr (bs.getD i 0)) ++ [ptr g1] else (adj A y).map fun i => ptr (bs.getD i 0)) := by
      funext y
      rw [hadj]
      simp only [List.map_append, hmap]
      have e1' : (bs ++ [g1, g2])[A.length]?.getD 0 = g1 := by simp [← hlen]
      have e2' : (bs ++ [g1, g2])[A.length + 1]?.getD 0 = g2 := by simp [← hlen]
      by_cases c1 : y = d <;> by_cases c2 : y = s
      · subst c1; subst c2; simp [e1', e2']
      · subst c1; simp [Ne.symm c2, c2, e2']
      · subst c2; simp [Ne.symm c1, c1, e1']
      · simp [c1, c2, Ne.symm c1, Ne.symm c2]
    rw [this]
    exact hrm
  · refine List.nodup_append.2 ⟨h.nd, by simp [hne], ?_⟩
    intro a ha c hc e
    subst e
    have := (h.rng a ha).2
    simp at hc
    omega
  · intro g hg
    rcases List.mem_append.1 hg with hg | hg
    · exact ⟨(h.rng g hg).1, by have := (h.rng g hg).2; omega⟩
    · simp at hg
      rcases hg with rfl | rfl <;> omega
  · intro i a a' ha ha'
    by_cases hi : i < A.length
    · have hf := flip_lt hi hev
      rw [List.getElem?_append_left hi] at ha
      rw [List.getElem?_append_left hf] at ha'
      exact h.pair i a a' ha ha'
    · have hil : i < (A ++ [(⟨s, d, room⟩ : Arc), ⟨d, s, 0⟩]).length := (List.getElem?_eq_some_iff.1 ha).1
      simp at hil
      have hcases : i = A.length ∨ i = A.length + 1 := by omega
      rcases hcases with rfl | rfl
      · have hf : flip A.length = A.length + 1 := by unfold flip; simp [hev]
        rw [hf] at ha'
        simp at ha ha'
        subst ha ha'
        exact ⟨rfl, rfl⟩
      · have hf : flip (A.length + 1) = A.length := by unfold flip; split <;> omega
        rw [hf] at ha'
        simp at ha ha'
        subst ha ha'
        exact ⟨rfl, rfl⟩
  · intro i a g g' ha hg hg'
    by_cases hi : i < A.length
    · have hf := flip_lt hi hev
      rw [List.getElem?_append_left hi] at ha
      rw [List.getElem?_append_left (by omega)] at hg hg'
      rw [ho g (List.mem_of_getElem? hg)]
      exact h.arcs i a g g' ha hg hg'
    · have hil : i < (A ++ [(⟨s, d, room⟩ : Arc), ⟨d, s, 0⟩]).length := (List.getElem?_eq_some_iff.1 ha).1
      simp at hil
      have hcases : i = A.length ∨ i = A.length + 1 := by omega
      rcases hcases with rfl | rfl
      · have hf : flip A.length = A.length + 1 := by unfold flip; simp [hev]
        rw [hf] at hg'
        simp at ha
        rw [← hlen] at hg hg'
        simp at hg hg'
        subst ha hg hg'
        exact h1
      · have hf : flip (A.length + 1) = A.length := by unfold flip; split <;> omega
        rw [hf] at hg'
        simp at ha
        rw [← hlen] at hg hg'
        simp at hg hg'
        subst ha hg hg'
        exact h2
end Go.Proofs.YtnhcpflenajeaaaDoor
