/- The iterator 'reach': what it hands on, for whatever body that keeps to its own. -/
import Derived.Test.YtnhcpflenajeaaaDoorJAdd
import Derived.RangeFuncNested
import Derived.RangeFuncBound
import Derived.RangeFuncCalls
import Derived.Sort.LoopGhostIn
import Derived.TacticsInMore
import Derived.LoopNIn
import Derived.LoopIn
import Derived.Test.YtnhcpflenajeaaaDoorJFlow
import Derived.Outline
import Derived.RangeFuncLeaves
import Derived.Shelf.Abstract
import Derived.Deep.LoopGhost
set_option linter.unusedVariables false
set_option linter.unusedSimpArgs false
namespace Go.Proofs.YtnhcpflenajeaaaDoor
open Go.RowKit Go.Proofs.YtnhcpflenajeaaaDoorW.PrintWords Go.Proofs.YtnhcpflenajeaaaDoorW.PrintMore Mem
attribute [local go_sem] Oper.semAt_some

theorem armIn_append_q {F : Fence} {nF : Nat} {P : Program} (w : World) {ops : Array Oper} {rest : List Oper} {o : Oper} {a : Act} {Q : Exit → Act → World → Prop}
    (hg : o.guard = none) (s x : Operand) (t : TypeId) (hop : o.op = Op.call { callee := Callee.builtin Builtin.append, args := #[s, x], argTypes := #[t, t] })
    (base : Nat) (e : TypeId) (i : TypeInfo) (z : Value) (size bytes : Nat) (h1 : P.underlying t = some (.slice e)) (h2 : P.info? e = some i) (h3 : i.zero = some z) (h4 : i.size = size) (h5 : i.bytes = bytes) (h6 : z.cells.size = size) (h7 : 0 < size)
    (v : Value) (k : Nat) (xs : List Value) (hs : a.eval s = v) (hown : QRow w base e size v k xs) (ad : Addr) (m c : Nat) (news : List Value) (hx : a.eval x = .slice (some ad) m c) (hn : news.length = m * size)
    (hc : ∀ j u, news[j]? = some u → w.cell? (ad.add j) = some u) (h1c : ∀ u ∈ news, u.oneCell' = true) (hm : 0 < m) (b1 : k + m ≤ maxLen) (b2 : (k + m) * bytes ≤ 140737488355328) (b3 : base ≤ w.heap.size)
    (hK : ∀ v' w', QRow w' base e size v' (k + m) (xs ++ news) → w.grownBy w' v.ownBlock → (v'.ownBlock = v.ownBlock ∨ ∃ b, v'.ownBlock = some b ∧ w.heap.size ≤ b) → wpListIn F nF P ops Q rest (a.put o.dst v') w') :
    wpListIn F nF P ops Q (o :: rest) a w := by
  refine wpListIn_plain hg fun K hK' => ?_
  obtain ⟨v', w', hrun, r1, r2, r3⟩ := q_append (P := P) w base t o.type e i z size bytes h1 h2 h3 h4 h5 h6 h7 v k xs hown ad m c news hn hc h1c hm b1 b2 b3
  unfold Oper.wpIn
  refine ⟨?_, ?_⟩
  · simp [Oper.about, hop, resolve, Target.leads, Sem.run_pure]
  · rw [Oper.semAt_plain F _ _ (by rw [hop]; intro c hc'; cases hc')]
    simp [execOp, hop, resolve, invoke, builtin, hs, hx, hrun, Result.andThen]
    exact hK' _ _ (hK v' w' r1 r2 r3)

def src0 : Knot := ⟨0, 0, 1⟩
def snk : Knot := ⟨0, 0, 2⟩
/-- What the variables source and sink hold. -/
structure Glob (w : World) : Prop where
  s0 : w.cell? ⟨0, 0, none⟩ = some (.int .i64 0)
  s1 : w.cell? ⟨0, 1, none⟩ = some (.int .i64 0)
  s2 : w.cell? ⟨0, 2, none⟩ = some (.int .i64 1)
  t0 : w.cell? ⟨1, 0, none⟩ = some (.int .i64 0)
  t1 : w.cell? ⟨1, 1, none⟩ = some (.int .i64 0)
  t2 : w.cell? ⟨1, 2, none⟩ = some (.int .i64 2)
theorem Glob.below {w w' : World} {B : Nat} (h : Glob w) (hb : Below B w w') (hB : 2 ≤ B) : Glob w' :=
  ⟨(hb.cell (p := ⟨0, 0, none⟩) (by simp; omega)).trans h.s0, (hb.cell (p := ⟨0, 1, none⟩) (by simp; omega)).trans h.s1, (hb.cell (p := ⟨0, 2, none⟩) (by simp; omega)).trans h.s2,
   (hb.cell (p := ⟨1, 0, none⟩) (by simp; omega)).trans h.t0, (hb.cell (p := ⟨1, 1, none⟩) (by simp; omega)).trans h.t1, (hb.cell (p := ⟨1, 2, none⟩) (by simp; omega)).trans h.t2⟩

/-- What has come: knots, each with the arc by which it is reached. -/
abbrev Pre := List (Knot × Nat)
def reached (pre : Pre) (k : Knot) : Prop := k = src0 ∨ k ∈ pre.map (·.1)
instance (pre : Pre) (k : Knot) : Decidable (reached pre k) := inferInstanceAs (Decidable (_ ∨ _))
inductive Tree (A : List Arc) : Pre → Prop
  | nil : Tree A []
  | snoc {pre : Pre} {k : Knot} {i : Nat} {a : Arc} (h : Tree A pre) (ha : A[i]? = some a) (hd : a.dst = k) (hl : a.left ≠ 0) (hs : reached pre a.src) (hk : ¬ reached pre k) : Tree A (pre ++ [(k, i)])
/-- All that leaves these knots and has room comes to what has come. -/
def DoneAt (A : List Arc) (pre : Pre) (l : List Nat) : Prop := ∀ i ∈ l, ∀ a, A[i]? = some a → a.left ≠ 0 → reached pre a.dst
def seenF (pre : Pre) : Knot → Option Value := fun k => if reached pre k then some (.bool true) else none
def qcells (qs : List Knot) : List Value := qs.flatMap fun k => [.int .i64 k.p, .int .i64 k.m, .int .i64 k.e]
theorem reached_snoc (pre : Pre) (k : Knot) (i : Nat) (x : Knot) : reached (pre ++ [(k, i)]) x ↔ reached pre x ∨ x = k := by
  simp [reached, or_assoc]
theorem DoneAt.mono {A : List Arc} {pre : Pre} {l : List Nat} (h : DoneAt A pre l) (k : Knot) (i : Nat) : DoneAt A (pre ++ [(k, i)]) l := fun j hj a ha hl => (reached_snoc pre k i _).2 (.inl (h j hj a ha hl))
theorem seenF_snoc (pre : Pre) (k : Knot) (i : Nat) : upd (seenF pre) k (.bool true) = seenF (pre ++ [(k, i)]) := by
  funext x
  unfold upd seenF
  by_cases h : x = k
  · subst h; simp [reached_snoc]
  · simp [reached_snoc, h]
theorem Tree.idx {A : List Arc} {pre : Pre} (h : Tree A pre) : ∀ x ∈ pre, ∃ a, A[x.2]? = some a ∧ a.dst = x.1 := by
  induction h with
  | nil => simp
  | snoc h ha hd hl hs hk ih =>
    intro x hx
    rcases List.mem_append.1 hx with hx | hx
    · exact ih x hx
    · simp at hx; subst hx; exact ⟨_, ha, hd⟩
theorem Tree.nodup {A : List Arc} {pre : Pre} (h : Tree A pre) : (src0 :: pre.map (·.1)).Nodup := by
  induction h with
  | nil => simp
  | @snoc pre k i a h ha hd hl hs hk ih =>
    have : src0 :: (pre ++ [(k, i)]).map (·.1) = (src0 :: pre.map (·.1)) ++ [k] := by simp
    rw [this]
    refine List.nodup_append.2 ⟨ih, by simp, fun x hx y hy e => ?_⟩
    simp at hy
    subst hy
    subst e
    exact hk (by simpa [reached] using hx)
theorem nodup_lt : ∀ (n : Nat) (l : List Nat), l.Nodup → (∀ x ∈ l, x < n) → l.length ≤ n
  | 0, l, _, h => by
    cases l with
    | nil => simp
    | cons x l => exact absurd (h x (List.mem_cons_self ..)) (by omega)
  | n + 1, l, hn, h => by
    have h1 := nodup_lt n (l.erase n) (hn.erase n) (fun x hx => by
      have := (hn.mem_erase_iff).1 hx
      have := h x this.2
      omega)
    rw [List.length_erase] at h1
    split at h1 <;> omega
theorem Tree.length_le {A : List Arc} {pre : Pre} (h : Tree A pre) : pre.length ≤ A.length := by
  have hn := h.nodup
  have hnd : (pre.map (·.2)).Nodup := by
    have h1 : (pre.map (·.1)).Nodup := (List.nodup_cons.1 hn).2
    have hi := h.idx
    clear hn h
    induction pre with
    | nil => simp
    | cons x l ih =>
      simp only [List.map_cons, List.nodup_cons] at h1 ⊢
      refine ⟨fun hm => h1.1 ?_, ih h1.2 (fun y hy => hi y (List.mem_cons_of_mem _ hy))⟩
      obtain ⟨y, hy, hxy⟩ := List.mem_map.1 hm
      obtain ⟨a, ha, hd⟩ := hi x (List.mem_cons_self ..)
      obtain ⟨a', ha', hd'⟩ := hi y (List.mem_cons_of_mem _ hy)
      rw [hxy, ha] at ha'
      injection ha' with ha'
      subst ha'
      exact List.mem_map.2 ⟨y, hy, by rw [← hd', hd]⟩
  have := nodup_lt A.length _ hnd (fun i hi => by
    obtain ⟨x, hx, rfl⟩ := List.mem_map.1 hi
    obtain ⟨a, ha, _⟩ := h.idx x hx
    exact (List.getElem?_eq_some_iff.1 ha).1)
  simpa using this
end Go.Proofs.YtnhcpflenajeaaaDoor

/- Arcs in a list, each with its way back: what a push along an arc does to the flow. No program in sight. -/
set_option linter.unusedVariables false
set_option linter.unusedSimpArgs false
namespace Go.Proofs.YtnhcpflenajeaaaDoor
open Flow

/-- The arcs by pairs. -/
def pairs : List Arc → List (Pair Knot)
  | a :: b :: l => ⟨a.src, a.dst, a.left, b.left⟩ :: pairs l
  | _ => []
def Arc.more (a : Arc) (d : Int) : Arc := ⟨a.src, a.dst, a.left + d⟩
/-- d more go along the arc at i. -/
def push (A : List Arc) (d : Int) (i : Nat) : List Arc := (A.modify i (·.more (-d))).modify (flip i) (·.more d)
/-- Each arc at an odd place is the way back of the one ahead of it. -/
def Backs : List Arc → Prop
  | a :: b :: l => b.src = a.dst ∧ b.dst = a.src ∧ Backs l
  | [] => True
  | [_] => False
def ends (A : List Arc) : List (Knot × Knot) := A.map fun a => (a.src, a.dst)

theorem flip_add2 (i : Nat) : flip (i + 2) = flip i + 2 := by unfold flip; split <;> split <;> omega
theorem push_cons2 (a b : Arc) (l : List Arc) (d : Int) (i : Nat) : push (a :: b :: l) d (i + 2) = a :: b :: push l d i := by
  unfold push
  rw [flip_add2]
  simp [List.modify_succ_cons]
theorem push_0 (a b : Arc) (l : List Arc) (d : Int) : push (a :: b :: l) d 0 = a.more (-d) :: b.more d :: l := by simp [push, flip]
theorem push_1 (a b : Arc) (l : List Arc) (d : Int) : push (a :: b :: l) d 1 = a.more d :: b.more (-d) :: l := by simp [push, flip]
theorem push_length (A : List Arc) (d : Int) (i : Nat) : (push A d i).length = A.length := by simp [push]
theorem ends_push (A : List Arc) (d : Int) (i : Nat) : ends (push A d i) = ends A := by
  unfold ends push
  apply List.ext_getElem? 
  intro j
  simp only [List.getElem?_map, List.getElem?_modify]
  cases A[j]? <;> simp
  repeat (split <;> simp_all [Arc.more])
theorem Backs.of_ends : ∀ {A B : List Arc}, ends A = ends B → Backs A → Backs B
  | [], [], _, _ => trivial
  | [], _ :: _, h, _ => by simp [ends] at h
  | [_], _, _, h => h.elim
  | a :: b :: l, [], h, _ => by simp [ends] at h
  | a :: b :: l, [_], h, _ => by simp [ends] at h
  | a :: b :: l, a' :: b' :: l', h, hb => by
    simp only [ends, List.map_cons, List.cons.injEq, Prod.mk.injEq] at h
    obtain ⟨⟨h1, h2⟩, ⟨h3, h4⟩, h5⟩ := h
    exact ⟨by rw [← h3, ← h2]; exact hb.1, by rw [← h4, ← h1]; exact hb.2.1, Backs.of_ends (A := l) h5 hb.2.2⟩
theorem Backs.even : ∀ {A : List Arc}, Backs A → A.length % 2 = 0
  | [], _ => rfl
  | [_], h => h.elim
  | _ :: _ :: l, h => by have := Backs.even (A := l) h.2.2; simp; omega

theorem net_push (S : Knot → Bool) (d : Int) : ∀ (A : List Arc) (i : Nat) (a : Arc), Backs A → A[i]? = some a → net S (pairs (push A d i)) = net S (pairs A) + d * (ind (S a.src) - ind (S a.dst))
  | [], i, a, _, h => by simp at h
  | [_], i, a, hb, _ => hb.elim
  | x :: y :: l, 0, a, hb, h => by
    simp at h; subst h
    rw [push_0]
    simp only [pairs, net, Arc.more]
    rw [Int.add_mul]
    omega
  | x :: y :: l, 1, a, hb, h => by
    simp at h; subst h
    rw [push_1]
    simp only [pairs, net, Arc.more, hb.1, hb.2.1]
    have e : (y.left + -d) * (ind (S x.src) - ind (S x.dst)) = y.left * (ind (S x.src) - ind (S x.dst)) + d * (ind (S x.dst) - ind (S x.src)) := by
      rw [Int.add_mul, Int.neg_mul, ← Int.mul_neg, Int.neg_sub]
    rw [e]
    omega
  | x :: y :: l, i + 2, a, hb, h => by
    rw [push_cons2]
    have ih := net_push S d l i a hb.2.2 (by simpa using h)
    simp only [pairs, net, ih]
    omega
theorem cut_push (S : Knot → Bool) (d : Int) : ∀ (A : List Arc) (i : Nat), Backs A → cut S (pairs (push A d i)) = cut S (pairs A)
  | [], i, _ => by simp [push]
  | [_], i, hb => hb.elim
  | x :: y :: l, 0, hb => by
    rw [push_0]
    simp only [pairs, cut, Arc.more]
    split <;> omega
  | x :: y :: l, 1, hb => by
    rw [push_1]
    simp only [pairs, cut, Arc.more]
    split <;> omega
  | x :: y :: l, i + 2, hb => by
    rw [push_cons2]
    have ih := cut_push S d l i hb.2.2
    simp only [pairs, cut, ih]

/-- Every arc with its way back: both have room that is no less than none; and together no more than C. -/
def Caps (C : Int) (A : List Arc) : Prop := ∀ p ∈ pairs A, 0 ≤ p.l ∧ 0 ≤ p.r ∧ p.l + p.r ≤ C
theorem Caps.fine {C : Int} {A : List Arc} (h : Caps C A) : Fine (pairs A) := fun p hp => ⟨(h p hp).1, (h p hp).2.1⟩
theorem Caps.get {C : Int} : ∀ {A : List Arc}, Backs A → Caps C A → ∀ (i : Nat) (a : Arc), A[i]? = some a → 0 ≤ a.left ∧ a.left ≤ C
  | [], _, _, i, a, h => by simp at h
  | [_], hb, _, i, a, h => hb.elim
  | x :: y :: l, hb, hc, 0, a, h => by
    simp at h; subst h
    have := hc _ (by simp [pairs]; exact .inl rfl)
    simp at this
    omega
  | x :: y :: l, hb, hc, 1, a, h => by
    simp at h; subst h
    have := hc _ (by simp [pairs]; exact .inl rfl)
    simp at this
    omega
  | x :: y :: l, hb, hc, i + 2, a, h => Caps.get (A := l) hb.2.2 (fun p hp => hc p (by simp [pairs, hp])) i a (by simpa using h)
theorem Caps.push {C : Int} (d : Int) (hd : 0 ≤ d) : ∀ {A : List Arc} (i : Nat) (a : Arc), Backs A → Caps C A → A[i]? = some a → d ≤ a.left → Caps C (push A d i)
  | [], i, a, _, _, h, _ => by simp at h
  | [_], i, a, hb, _, _, _ => hb.elim
  | x :: y :: l, 0, a, hb, hc, h, hl => by
    simp at h; subst h
    rw [push_0]
    intro p hp
    simp only [pairs, List.mem_cons] at hp
    have h0 := hc _ (by simp [pairs]; exact .inl rfl)
    rcases hp with rfl | hp
    · simp [Arc.more] at h0 ⊢; omega
    · exact hc p (by simp [pairs, hp])
  | x :: y :: l, 1, a, hb, hc, h, hl => by
    simp at h; subst h
    rw [push_1]
    intro p hp
    simp only [pairs, List.mem_cons] at hp
    have h0 := hc _ (by simp [pairs]; exact .inl rfl)
    rcases hp with rfl | hp
    · simp [Arc.more] at h0 ⊢; omega
    · exact hc p (by simp [pairs, hp])
  | x :: y :: l, i + 2, a, hb, hc, h, hl => by
    rw [push_cons2]
    have ih := Caps.push d hd (A := l) i a hb.2.2 (fun p hp => hc p (by simp [pairs, hp])) (by simpa using h) hl
    intro p hp
    simp only [pairs, List.mem_cons] at hp
    rcases hp with rfl | hp
    · exact hc _ (by simp [pairs])
    · exact ih p hp
/-- The room that an arc has when others have been pushed: no less. -/
theorem push_other (A : List Arc) (d : Int) (hd : 0 ≤ d) (i j : Nat) (a : Arc) (hne : i ≠ j) (h : A[j]? = some a) : ∃ a', (push A d i)[j]? = some a' ∧ a'.src = a.src ∧ a'.dst = a.dst ∧ a.left ≤ a'.left := by
  unfold push
  rw [List.getElem?_modify, List.getElem?_modify, h]
  by_cases hf : flip i = j
  · simp [hf, hne, Arc.more]; omega
  · simp [hf, hne]

/-- Closed, by arcs. -/
theorem closed_iff (S : Knot → Bool) : ∀ (A : List Arc), Backs A → ((∀ (i : Nat) (a : Arc), A[i]? = some a → S a.src = true → a.left ≠ 0 → S a.dst = true) ↔ Closed S (pairs A))
  | [], _ => by simp [pairs, Closed]
  | [_], hb => hb.elim
  | x :: y :: l, hb => by
    have ih := closed_iff S l hb.2.2
    constructor
    · intro h p hp
      simp only [pairs, List.mem_cons] at hp
      rcases hp with rfl | hp
      · refine ⟨h 0 x rfl, ?_⟩
        have := h 1 y rfl
        rw [hb.1, hb.2.1] at this
        exact this
      · exact ih.1 (fun i a hi => h (i + 2) a (by simpa using hi)) p hp
    · intro h i a hi
      match i, hi with
      | 0, hi => simp at hi; subst hi; exact (h _ (by simp [pairs]; exact .inl rfl)).1
      | 1, hi => simp at hi; subst hi; rw [hb.1, hb.2.1]; exact (h ⟨x.src, x.dst, x.left, y.left⟩ (by simp [pairs])).2
      | i + 2, hi => exact ih.2 (fun p hp => h p (by simp [pairs, hp])) i a (by simpa using hi)

/-! ### What the filling keeps -/
structure Fl (A0 A : List Arc) (m : Int) : Prop where
  ends : ends A = ends A0
  net : ∀ S : Knot → Bool, net S (pairs A) = net S (pairs A0) + m * (ind (S src0) - ind (S snk))
  cut : ∀ S : Knot → Bool, Flow.cut S (pairs A) = Flow.cut S (pairs A0)
theorem Fl.refl (A : List Arc) : Fl A A 0 := ⟨rfl, fun S => by simp, fun S => rfl⟩

/-- A list of arcs that leads from s to t, the last first. -/
inductive Way (A : List Arc) (s : Knot) : Knot → List Nat → Prop
  | nil : Way A s s []
  | cons {t : Knot} {i : Nat} {a : Arc} {l : List Nat} (ha : A[i]? = some a) (hd : a.dst = t) (h : Way A s a.src l) : Way A s t (i :: l)
theorem Way.of_ends {A B : List Arc} {s t : Knot} {l : List Nat} (he : YtnhcpflenajeaaaDoor.ends A = YtnhcpflenajeaaaDoor.ends B) (h : Way A s t l) : Way B s t l := by
  induction h with
  | nil => exact .nil
  | @cons t i a l ha hd h ih =>
    have h1 : (YtnhcpflenajeaaaDoor.ends B)[i]? = some (a.src, a.dst) := by rw [← he]; simp [YtnhcpflenajeaaaDoor.ends, ha]
    simp only [YtnhcpflenajeaaaDoor.ends, List.getElem?_map, Option.map_eq_some_iff] at h1
    obtain ⟨b, hb, hb'⟩ := h1
    simp only [Prod.mk.injEq] at hb'
    exact .cons hb (by rw [hb'.2, hd]) (by rw [hb'.1]; exact ih)
theorem net_pushes (S : Knot → Bool) (d : Int) : ∀ (l : List Nat) (A : List Arc) (s t : Knot), Backs A → Way A s t l → net S (pairs (l.foldl (fun B i => push B d i) A)) = net S (pairs A) + d * (ind (S s) - ind (S t))
  | [], A, s, t, hb, h => by cases h; simp
  | i :: l, A, s, t, hb, h => by
    cases h with
    | cons ha hd hw =>
    simp only [List.foldl_cons]
    rw [net_pushes S d l (push A d i) s _ (hb.of_ends (ends_push A d i).symm) (hw.of_ends (ends_push A d i).symm), net_push S d A i _ hb ha, hd, Int.add_assoc, ← Int.mul_add]
    congr 2
    omega
theorem cut_pushes (S : Knot → Bool) (d : Int) : ∀ (l : List Nat) (A : List Arc), Backs A → Flow.cut S (pairs (l.foldl (fun B i => push B d i) A)) = Flow.cut S (pairs A)
  | [], A, hb => rfl
  | i :: l, A, hb => by
    simp only [List.foldl_cons]
    rw [cut_pushes S d l (push A d i) (hb.of_ends (ends_push A d i).symm), cut_push S d A i hb]
theorem ends_pushes (d : Int) : ∀ (l : List Nat) (A : List Arc), YtnhcpflenajeaaaDoor.ends (l.foldl (fun B i => push B d i) A) = YtnhcpflenajeaaaDoor.ends A
  | [], A => rfl
  | i :: l, A => by simp only [List.foldl_cons]; rw [ends_pushes d l, ends_push]
theorem Fl.way {A0 A : List Arc} {m d : Int} {l : List Nat} (h : Fl A0 A m) (hb : Backs A) (hw : Way A src0 snk l) : Fl A0 (l.foldl (fun B i => push B d i) A) (m + d) where
  ends := by rw [ends_pushes]; exact h.ends
  net S := by rw [net_pushes S d l A _ _ hb hw, h.net S, Int.add_mul]; omega
  cut S := by rw [cut_pushes S d l A hb, h.cut S]
end Go.Proofs.YtnhcpflenajeaaaDoor

/- The arcs of the network of a visit, in the program's order. No program in sight. -/
set_option linter.unusedVariables false
set_option linter.unusedSimpArgs false
namespace Go.Proofs.YtnhcpflenajeaaaDoor
open Go.RowKit Go.Proofs.YtnhcpflenajeaaaDoorW.PrintWords Go.Proofs.YtnhcpflenajeaaaDoorW.PrintMore PCrowdMost

/-- A visit. -/
structure Vis where
  rooms : List Int
  trails : List S51
  arrivals : List S49

def kn (p t : Int) : Knot := ⟨p, t, 0⟩
def two (s d : Knot) (r : Int) : List Arc := [⟨s, d, r⟩, ⟨d, s, 0⟩]
def roomArc (v : Vis) (minute t p : Int) : List Arc := if t < minute then two (kn p t) (kn p (t + 1)) (rd v.rooms p) else []
def trailArc (v : Vis) (minute t i : Int) : List Arc :=
  if t + (rd_T51 v.trails i).f2 ≤ minute then two (kn (rd_T51 v.trails i).f0 t) (kn (rd_T51 v.trails i).f1 (t + (rd_T51 v.trails i).f2)) (rd_T51 v.trails i).f3 else []
def arrArc (v : Vis) (minute i : Int) : List Arc :=
  if (rd_T49 v.arrivals i).f0 ≤ minute then two src0 (kn (rd_T49 v.arrivals i).f1 (rd_T49 v.arrivals i).f0) (rd_T49 v.arrivals i).f2 else []
/-- The first n of something. -/
def upto {α : Type} (g : Int → List α) (n : Nat) : List α := (List.range n).flatMap fun i : Nat => g (i : Int)
theorem upto_succ {α : Type} (g : Int → List α) (n : Nat) : upto g (n + 1) = upto g n ++ g (n : Int) := by
  simp [upto, List.range_succ]
theorem upto_zero {α : Type} (g : Int → List α) : upto g 0 = [] := rfl
theorem upto_length {α : Type} (g : Int → List α) (k : Nat) (h : ∀ i, (g i).length ≤ k) : ∀ n, (upto g n).length ≤ k * n
  | 0 => by simp [upto]
  | n + 1 => by
    rw [upto_succ, List.length_append]
    have := upto_length g k h n
    have := h (n : Int)
    rw [Nat.mul_succ]
    omega
def minuteArcs (v : Vis) (minute t : Int) : List Arc := upto (roomArc v minute t) v.rooms.length ++ upto (trailArc v minute t) v.trails.length
def netArcs (v : Vis) (place minute : Int) : List Arc :=
  upto (minuteArcs v minute) (minute + 1).toNat ++ upto (arrArc v minute) v.arrivals.length ++ two (kn place minute) snk (rd v.rooms place)
theorem roomArc_length (v : Vis) (m t p : Int) : (roomArc v m t p).length ≤ 2 := by unfold roomArc two; split <;> simp
theorem trailArc_length (v : Vis) (m t p : Int) : (trailArc v m t p).length ≤ 2 := by unfold trailArc two; split <;> simp
theorem arrArc_length (v : Vis) (m t : Int) : (arrArc v m t).length ≤ 2 := by unfold arrArc two; split <;> simp
theorem minuteArcs_length (v : Vis) (m t : Int) : (minuteArcs v m t).length ≤ 2 * v.rooms.length + 2 * v.trails.length := by
  unfold minuteArcs
  rw [List.length_append]
  have := upto_length (roomArc v m t) 2 (roomArc_length v m t) v.rooms.length
  have := upto_length (trailArc v m t) 2 (trailArc_length v m t) v.trails.length
  omega

/-- What the program checks of a visit. -/
structure Vis.Ok (v : Vis) : Prop where
  n1 : 1 ≤ v.rooms.length
  n8 : v.rooms.length ≤ 8
  t16 : v.trails.length ≤ 16
  a16 : v.arrivals.length ≤ 16
  room : ∀ i : Int, 0 ≤ i → i < v.rooms.length → 0 ≤ rd v.rooms i ∧ rd v.rooms i ≤ 1000
  trail : ∀ i : Int, 0 ≤ i → i < v.trails.length → (0 ≤ (rd_T51 v.trails i).f0 ∧ (rd_T51 v.trails i).f0 < v.rooms.length) ∧ (0 ≤ (rd_T51 v.trails i).f1 ∧ (rd_T51 v.trails i).f1 < v.rooms.length) ∧ (rd_T51 v.trails i).f0 ≠ (rd_T51 v.trails i).f1 ∧ (1 ≤ (rd_T51 v.trails i).f2 ∧ (rd_T51 v.trails i).f2 ≤ 60) ∧ (0 ≤ (rd_T51 v.trails i).f3 ∧ (rd_T51 v.trails i).f3 ≤ 1000)
  arr : ∀ i : Int, 0 ≤ i → i < v.arrivals.length → (0 ≤ (rd_T49 v.arrivals i).f0 ∧ (rd_T49 v.arrivals i).f0 ≤ 60) ∧ (0 ≤ (rd_T49 v.arrivals i).f1 ∧ (rd_T49 v.arrivals i).f1 < v.rooms.length) ∧ (0 ≤ (rd_T49 v.arrivals i).f2 ∧ (rd_T49 v.arrivals i).f2 ≤ 1000)

/-- A visit in memory. -/
structure VisAt (w : World) (v : Vis) (A0 A1 A2 : Option Addr) (c0 c1 c2 : Nat) : Prop where
  r0 : Kd.C (Kd.int .i64) w A0 v.rooms.length v.rooms
  k0 : v.rooms.length ≤ c0
  r1 : Kd.C k51 w A1 v.trails.length v.trails
  k1 : v.trails.length ≤ c1
  r2 : Kd.C k49 w A2 v.arrivals.length v.arrivals
  k2 : v.arrivals.length ≤ c2
end Go.Proofs.YtnhcpflenajeaaaDoor

set_option linter.unusedVariables false
set_option linter.unusedSimpArgs false
namespace Go.Proofs.YtnhcpflenajeaaaDoor
open Go.RowKit Go.Proofs.YtnhcpflenajeaaaDoorW.PrintWords Go.Proofs.YtnhcpflenajeaaaDoorW.PrintMore Mem
attribute [local go_sem] Oper.semAt_some
theorem info89 : (Tryd.prog.info? 89).map (fun i => (i.zero, i.size, i.bytes)) = some (some (.agg #[.int .i64 0, .int .i64 0, .int .i64 0]), 3, 24) := by kernel_rfl

theorem armInG_lookup {F : Fence} {nF : Nat} {P : Program} {kt t e : TypeId} {K : Type} {enc : K → Value} {w : World} {b : Nat} {f : K → Option Value} {ops : Array Oper} {rest : List Oper} {o : Oper} {a : Act} {Q : Exit → Act → World → Prop}
    (hw : Region.wanted o (yielded ops a.tmps) = true) (m x : Operand) (c : Bool) (hop : o.op = Op.lookup t m x c) (K' : KeyT P kt enc) (ht : P.underlying t = some (.map kt e)) {z : Value} (hz : (zeroValue e).run P w = .ok z w)
    (hm : a.eval m = .map (some b)) (h : MapFn enc w b f) (k : K) (hx : a.eval x = enc k)
    (hK : wpListIn F nF P ops Q rest (a.put o.dst (if c then .tuple #[(f k).getD z, .bool (f k).isSome] else (f k).getD z)) w) : wpListIn F nF P ops Q (o :: rest) a w := by
  unfold wpListIn
  rw [if_pos hw]
  have hrun := h.look K' ht hz k c
  unfold Oper.wpIn
  refine ⟨by simp [Oper.about, hop], ?_⟩
  rw [Oper.semAt_plain F _ _ (by rw [hop]; intro c hc'; cases hc')]
  simp only [execOp, hop, hm, hx]
  simp [hrun, Result.andThen]
  exact hK

structure RInv (W : World) (top Bn : Nat) (A : List Arc) (J : Pre → (Nat → Prop) → World → Prop) (done all qs ql : List Knot) (cur : List Nat) (pre sn : Pre) (own : Nat → Prop) (v : Value) (X : World) : Prop where
  split : src0 :: pre.map (·.1) = all ++ qs
  q : QRow X W.heap.size 89 3 v ql.length (qcells ql)
  tree : Tree A pre
  don : ∀ k ∈ done, DoneAt A pre (adj A k)
  cu : DoneAt A pre cur
  seen : MapFn kv X W.heap.size (seenF sn)
  j : J pre own X
  nbs : ¬ own W.heap.size
  nq : ∀ g, v.ownBlock = some g → ¬ own g
  nbn : ¬ own Bn
  bel : Below top W X
  bn : X.heap[Bn]? = W.heap[Bn]?
  bnl : Bn < W.heap.size
  tw : top ≤ W.heap.size

/-- What J says hangs on its own blocks alone. -/
def Stable (J : Pre → (Nat → Prop) → World → Prop) : Prop :=
  ∀ pre own X Y, J pre own X → X.heap.size ≤ Y.heap.size → Y.os = X.os → Y.tape = X.tape → Y.output = X.output → (∀ k, own k → Y.heap[k]? = X.heap[k]?) → J pre own Y
def Lies (top : Nat) (J : Pre → (Nat → Prop) → World → Prop) : Prop := ∀ pre own X, J pre own X → ∀ k, own k → k < X.heap.size ∧ top ≤ k

section
variable {W : World} {top Bn : Nat} {A : List Arc} {J : Pre → (Nat → Prop) → World → Prop} {done all qs ql : List Knot} {cur : List Nat} {pre sn : Pre} {own : Nat → Prop} {v : Value} {X Y : World}

theorem RInv.lt (h : RInv W top Bn A J done all qs ql cur pre sn own v X) : W.heap.size < X.heap.size := h.seen.lt

theorem RInv.fr {S : Nat → Prop} (h : RInv W top Bn A J done all qs ql cur pre sn own v X) (hf : Fr S X Y) (hst : Stable J) (hlt : Lies top J) (h1 : ∀ k, own k → ¬ S k) (h2 : ¬ S W.heap.size) (h3 : ∀ g, v.ownBlock = some g → ¬ S g) (h4 : ¬ S Bn) (h5 : ∀ k, S k → top ≤ k) :
    RInv W top Bn A J done all qs ql cur pre sn own v Y where
  split := h.split
  q := q_move h.q (fun k hk => hf.block k (q_lt h.q k hk) (h3 k hk))
  tree := h.tree
  don := h.don
  cu := h.cu
  seen := h.seen.fr hf h2
  j := hst _ _ _ _ h.j hf.size hf.os hf.tape hf.output (fun k hk => hf.block k (hlt _ _ _ h.j k hk).1 (h1 k hk))
  nbs := h.nbs
  nq := h.nq
  nbn := h.nbn
  bel := h.bel.trans (hf.below (by have := h.lt; have := h.tw; omega) (fun k hk hs => by have := h5 k hs; omega))
  bn := (hf.block Bn (by have := h.lt; have := h.bnl; omega) h4).trans h.bn
  bnl := h.bnl
  tw := h.tw

theorem RInv.step (h : RInv W top Bn A J done all qs ql cur pre sn own v X) {cur' : List Nat} (hc : DoneAt A pre cur') : RInv W top Bn A J done all qs ql cur' pre sn own v X :=
  ⟨h.split, h.q, h.tree, h.don, hc, h.seen, h.j, h.nbs, h.nq, h.nbn, h.bel, h.bn, h.bnl, h.tw⟩
theorem DoneAt.take {A : List Arc} {pre : Pre} {l : List Nat} {j i : Nat} {a : Arc} (h : DoneAt A pre (l.take j)) (hi : l[j]? = some i) (ha : A[i]? = some a) (hr : a.left ≠ 0 → reached pre a.dst) : DoneAt A pre (l.take (j + 1)) := by
  intro x hx b hb hl
  rw [List.take_add_one, hi] at hx
  rcases List.mem_append.1 hx with hx | hx
  · exact h x hx b hb hl
  · simp at hx
    subst hx
    rw [ha] at hb
    injection hb with hb
    subst hb
    exact hr hl

theorem RInv.seen1 (h : RInv W top Bn A J done all qs ql cur pre sn own v X) (hst : Stable J) (hlt : Lies top J) {k : Knot} (i : Nat) (hg : X.grownBy Y (some W.heap.size)) (hm : MapFn kv Y W.heap.size (upd (seenF sn) k (.bool true))) :
    RInv W top Bn A J done all qs ql cur pre (sn ++ [(k, i)]) own v Y where
  split := h.split
  q := q_move h.q (fun g hk => hg.block g (q_lt h.q g hk) (fun e => by
    injection e with e
    subst e
    obtain ⟨_, cells, hc⟩ := q_typed h.q _ hk
    obtain ⟨es, c, h1, _⟩ := h.seen
    rw [hc] at h1
    cases h1))
  tree := h.tree
  don := h.don
  cu := h.cu
  seen := by rw [← seenF_snoc]; exact hm
  j := hst _ _ _ _ h.j hg.size hg.os hg.tape hg.output (fun k hk => hg.block k (hlt _ _ _ h.j k hk).1 (fun e => h.nbs (by injection e with e; exact e ▸ hk)))
  nbs := h.nbs
  nq := h.nq
  nbn := h.nbn
  bel := h.bel.grown hg (by have := h.lt; have := h.tw; omega) (fun k hk => by cases hk; exact h.tw)
  bn := (hg.block Bn (by have := h.lt; have := h.bnl; omega) (by have := h.bnl; intro e; injection e with e; omega)).trans h.bn
  bnl := h.bnl
  tw := h.tw

theorem RInv.yield1 {k : Knot} {i : Nat} (h : RInv W top Bn A J done all qs ql cur pre (pre ++ [(k, i)]) own v X) (hlt : Lies top J) {own' : Nat → Prop} (hf : Fr own X Y) (ho : ∀ j, own' j → own j ∨ X.heap.size ≤ j) (hj : J (pre ++ [(k, i)]) own' Y) (ht : Tree A (pre ++ [(k, i)])) :
    RInv W top Bn A J done all (qs ++ [k]) ql cur (pre ++ [(k, i)]) (pre ++ [(k, i)]) own' v Y where
  split := by
    have := h.split
    rw [← List.append_assoc, ← this]
    simp
  q := q_move h.q (fun g hk => hf.block g (q_lt h.q g hk) (h.nq g hk))
  tree := ht
  don := fun x hx => (h.don x hx).mono k i
  cu := h.cu.mono k i
  seen := h.seen.fr hf h.nbs
  j := hj
  nbs := fun e => (ho _ e).elim h.nbs (fun e => by have := h.lt; omega)
  nq := fun g hg e => (ho _ e).elim (h.nq g hg) (fun e => by have := q_lt h.q g hg; omega)
  nbn := fun e => (ho _ e).elim h.nbn (fun e => by have := h.lt; have := h.bnl; omega)
  bel := h.bel.trans (hf.below (by have := h.lt; have := h.tw; omega) (fun k hk hs => by have := (hlt _ _ _ h.j k hs).2; omega))
  bn := (hf.block Bn (by have := h.lt; have := h.bnl; omega) h.nbn).trans h.bn
  bnl := h.bnl
  tw := h.tw

theorem RInv.queue {k : Knot} (h : RInv W top Bn A J done all qs ql cur pre sn own v X) (hst : Stable J) (hlt : Lies top J) {v' : Value} (hg : X.grownBy Y v.ownBlock)
    (hq : QRow Y W.heap.size 89 3 v' (ql ++ [k]).length (qcells (ql ++ [k]))) (hat : v'.ownBlock = v.ownBlock ∨ ∃ b, v'.ownBlock = some b ∧ X.heap.size ≤ b) :
    RInv W top Bn A J done all qs (ql ++ [k]) cur pre sn own v' Y where
  split := h.split
  q := hq
  tree := h.tree
  don := h.don
  cu := h.cu
  seen := h.seen.kept hg (fun e => by
    obtain ⟨_, cells, hc⟩ := q_typed h.q _ e.symm
    obtain ⟨es, c, h1, _⟩ := h.seen
    rw [hc] at h1
    cases h1)
  j := hst _ _ _ _ h.j hg.size hg.os hg.tape hg.output (fun k hk => hg.block k (hlt _ _ _ h.j k hk).1 (fun e => h.nq k e.symm hk))
  nbs := h.nbs
  nq := fun g hg' e => by
    rcases hat with hat | ⟨b', hat, hb⟩
    · exact h.nq g (hat ▸ hg') e
    · rw [hat] at hg'
      injection hg' with hg'
      have := (hlt _ _ _ h.j g e).1
      omega
  nbn := h.nbn
  bel := h.bel.grown hg (by have := h.lt; have := h.tw; omega) (fun g hg' => by have := (q_typed h.q g hg').1; have := h.tw; omega)
  bn := (hg.block Bn (by have := h.lt; have := h.bnl; omega) (fun e => by have := (q_typed h.q Bn e.symm).1; have := h.bnl; omega)).trans h.bn
  bnl := h.bnl
  tw := h.tw
end

theorem cell_alloc' {w : World} {a : Addr} {v : Value} (o : Obj) (h : w.cell? a = some v) : (w.alloc o).cell? a = some v := (World.cell?_of_block (Below.heap_alloc w o a.block (World.block_lt_of_cell? w a h))).trans h

set_option maxRecDepth 100000 in
set_option maxHeartbeats 2000000 in
theorem reach1_in (n l Bn base top b : Nat) (A : List Arc) (bs : List Nat) (f : Knot → Option Value) (J Jx : Pre → (Nat → Prop) → World → Prop) (W : World)
    (hnet : NetMem W base top b A bs f) (hG : Glob W) (h2b : 2 ≤ base) (htop : base ≤ top) (hA : A.length ≤ 1000000)
    (hBn : W.cell? ⟨Bn, 0, none⟩ = some (.map (some b))) (hBt : top ≤ Bn)
    (own0 : Nat → Prop) (h0 : J [] own0 W) (hob : ¬ own0 Bn)
    (hlt : Lies top J) (hst : Stable J)
    (hY : ∀ pre own k i a g X, J pre own X → Below top W X → A[i]? = some a → a.dst = k → bs[i]? = some g → Tree A (pre ++ [(k, i)]) →
      YieldAt Fence.wide (n - 1) Tryd.prog l #[.agg #[.int .i64 k.p, .int .i64 k.m, .int .i64 k.e], ptr g] X fun e Y => ∃ own', (∀ j, own' j → own j ∨ X.heap.size ≤ j) ∧ Fr own X Y ∧
        ((e = .returned (.bool true) ∧ J (pre ++ [(k, i)]) own' Y) ∨ (e = .returned (.bool false) ∧ Jx (pre ++ [(k, i)]) own' Y))) :
    CallsIn Fence.wide n Tryd.prog 55 #[.func (.yield l) #[] #[], .pointer (some ⟨Bn, 0, none⟩)] W fun e Y => (∃ v, e = .returned v) ∧ Below top W Y ∧
      ((∃ pre own, Tree A pre ∧ (∀ k, reached pre k → DoneAt A pre (adj A k)) ∧ J pre own Y) ∨ (∃ pre own, Tree A pre ∧ Jx pre own Y)) := by
  have hg0 := hG.s0
  have hg1 := hG.s1
  have hg2 := hG.s2
  have hmm := @run_makeMap Tryd.prog
  have HN := Lib.hid hnet
  have HGl := Lib.hid hG
  have HST := Lib.hid hst
  have HLT := Lib.hid hlt
  have HY := Lib.hid hY
  have HJ0 := Lib.hid h0
  have HOB := Lib.hid hob
  have HBN := Lib.hid hBn
  clear hnet hG hst hlt hY h0 hob hBn
  have hz0 : 0 < W.heap.size := by have := HN.out.rm.size; omega
  refine callsIn_of_wp Tryd.func55 rfl trivial ?_ rfl
  simp only [Tryd.ntmps55, List.size_toArray, List.length_cons, List.length_nil, Nat.reduceAdd, Nat.reduceSub, Array.replicate_succ, Array.replicate_zero, List.push_toArray, List.append_toArray, List.nil_append, List.cons_append]
  have HM0 : Hid (MapFn kv (W.alloc (.map #[] 0)) W.heap.size (fun _ => none)) := MapFn.new W
  gi_wp2_with (first
    | (refine armIn_update rfl _ _ _ (.inr rfl) key89 Tryd.underlying108 rfl HM0.out src0 rfl (.bool true) rfl ?_; intro w1 hm1 hgr1 hs1; have HM1 := Lib.hid hm1; have HG1 := Lib.hid hgr1; have HS1 := Lib.hid hs1; clear hm1 hgr1 hs1;
       have k0 : w1.cell? ⟨0, 0, none⟩ = some (.int .i64 0) := HG1.out.cell (cell_alloc' _ hg0) (by simp; omega);
       have k1 : w1.cell? ⟨0, 1, none⟩ = some (.int .i64 0) := HG1.out.cell (cell_alloc' _ hg1) (by simp; omega);
       have k2 : w1.cell? ⟨0, 2, none⟩ = some (.int .i64 1) := HG1.out.cell (cell_alloc' _ hg2) (by simp; omega);
       have hz1 : 0 < w1.heap.size := (by rw [HS1.out]; simp)))
  have HB1 : Hid (Below top W (w1.alloc (Obj.cells #[Value.int IntKind.i64 0, Value.int IntKind.i64 0, Value.int IntKind.i64 1] 89))) := by
    have ht : top ≤ W.heap.size := HN.out.rm.size
    refine Below.alloc (Below.grown ((Below.refl top W).alloc ht _) HG1.out (by simp; omega) (fun k hk => by cases hk; exact ht)) (by rw [HS1.out]; simp; omega) _
  have HI0 : Hid (RInv W top Bn A J [] [] [src0] [src0] [] [] [] own0 (.slice (some ⟨w1.heap.size, 0, none⟩) 1 1) (w1.alloc (Obj.cells #[Value.int IntKind.i64 0, Value.int IntKind.i64 0, Value.int IntKind.i64 1] 89))) := by
    have hs1 : w1.heap.size = W.heap.size + 1 := by rw [HS1.out]; simp
    have hnew : ¬ own0 W.heap.size := fun h => by have := (HLT.out _ _ _ HJ0.out _ h).1; omega
    have hnew1 : ¬ own0 w1.heap.size := fun h => by have := (HLT.out _ _ _ HJ0.out _ h).1; omega
    refine ⟨rfl, ?_, .nil, by simp, by simp [DoneAt], ?_, ?_, hnew, ?_, HOB.out, HB1.out, ?_, World.block_lt_of_cell? W _ HBN.out, HN.out.rm.size⟩
    · exact q_of_own (World.ownsRow_lit (base := W.heap.size) (e := 89) (size := 3) w1 #[Value.int IntKind.i64 0, Value.int IntKind.i64 0, Value.int IntKind.i64 1] 1 (by omega) (by decide) rfl)
    · have h1 : upd (fun _ => none) src0 (.bool true) = seenF [] := by funext x; unfold upd seenF; by_cases h : x = src0 <;> simp [h, reached]
      rw [← h1]
      exact HM1.out.alloc _
    · refine HST.out [] own0 W _ HJ0.out HB1.out.size HB1.out.os HB1.out.tape HB1.out.output (fun k hk => ?_)
      have hkl := (HLT.out _ _ _ HJ0.out _ hk).1
      rw [Below.heap_alloc w1 _ k (by omega), HG1.out.block k (by simp; omega) (fun e => hnew (by cases e; exact hk)), Below.heap_alloc W _ k hkl]
    · intro g hg
      simp [Value.ownBlock] at hg
      subst hg
      exact hnew1
    · have hl := World.block_lt_of_cell? W _ HBN.out
      simp only at hl
      rw [Below.heap_alloc w1 _ Bn (by omega), HG1.out.block Bn (by simp; omega) (by intro e; injection e with e; omega), Below.heap_alloc W _ Bn hl]
  clear k0 k1 k2 hg0 hg1 hg2 hmm HM0 HM1 HG1 HB1
  gi_loopg [4] (A.length + 1) (fun gk v X => ∃ done qs pre own, gk + done.length = A.length + 1 ∧ RInv W top Bn A J done done qs qs [] pre pre own v X)
  case atStart => exact ⟨[], _, _, _, rfl, HI0.out⟩
  case round =>
    obtain ⟨done, qs, pre, own, hgk, hI⟩ := hrel
    have HI := Lib.hid hI
    clear hI HI0
    obtain ⟨Aq, cq, hv4, hnc⟩ := q_slice HI.out.q
    subst hv4
    cases qs with
    | nil =>
      gi_wp2
      go_end0
      refine ⟨⟨_, rfl⟩, HI.out.bel, .inl ⟨pre, own, HI.out.tree, fun k hk => HI.out.don k ?_, HI.out.j⟩⟩
      have h1 := HI.out.split
      simp only [List.append_nil] at h1
      rw [← h1]
      simpa [reached] using hk
    | cons k0 qs =>
      -- the first of the queue
      obtain ⟨gq, oq, hAq, hc0, hc1, hc2⟩ : ∃ gq oq, Aq = some ⟨gq, oq, none⟩ ∧ wr.cell? ⟨gq, oq, none⟩ = some (.int .i64 k0.p) ∧ wr.cell? ⟨gq, oq + 1, none⟩ = some (.int .i64 k0.m) ∧ wr.cell? ⟨gq, oq + 2, none⟩ = some (.int .i64 k0.e) := by
        have hq := HI.out.q
        rcases hq.2 with ⟨h0, _⟩ | ⟨g, off, cap, cur, hv, _⟩
        · simp at h0
        · injection hv with hA _ _
          subst hA
          obtain ⟨ad, had, hc⟩ := q_cells hq (by simp)
          injection had with had
          subst had
          refine ⟨g, off * 3, rfl, ?_, ?_, ?_⟩
          · have := hc 0 (.int .i64 k0.p) (by simp [qcells]); simpa [Addr.add] using this
          · have := hc 1 (.int .i64 k0.m) (by simp [qcells]); simpa [Addr.add] using this
          · have := hc 2 (.int .i64 k0.e) (by simp [qcells]); simpa [Addr.add] using this
      subst hAq
      obtain ⟨i0, hi0, hz0, hzs, hzb⟩ := info_parts info89
      have HI9 : Hid (Tryd.prog.info? 89 = some i0 ∧ i0.zero = some (.agg #[.int .i64 0, .int .i64 0, .int .i64 0]) ∧ i0.size = 3 ∧ i0.bytes = 24) := ⟨hi0, hz0, hzs, hzb⟩
      have hcut := cut_from (P := Tryd.prog) 109 89 .i64 Tryd.underlying109 hi0 3 hzs (some ⟨gq, oq, none⟩) (k0 :: qs).length cq 1 (by omega) (by simp; omega)
      clear hi0 hz0 hzs hzb
      have hdrop := q_drop (k := 1) HI.out.q (by simp)
      obtain ⟨A1, hA1⟩ : ∃ A1, A1 = (if cq = (1 : Int).toNat then (some ⟨gq, oq, none⟩ : Option Addr) else (some (⟨gq, oq, none⟩ : Addr)).map (·.add ((1 : Int).toNat * 3))) := ⟨_, rfl⟩
      obtain ⟨c1, hc1'⟩ : ∃ c1, c1 = cq - (1 : Int).toNat := ⟨_, rfl⟩
      rw [← hA1, ← hc1'] at hcut
      have hHD : QRow wr W.heap.size 89 3 (.slice A1 qs.length c1) qs.length (qcells qs) := by
        rw [hA1, hc1']
        simpa [qcells] using hdrop
      have hown1 : ∀ g, (Value.slice A1 qs.length c1).ownBlock = some g → g = gq := by
        intro g hg
        rw [hA1] at hg
        split at hg <;> simp [Value.ownBlock, Addr.add] at hg <;> exact hg.symm
      have HD := Lib.hid hHD
      have HO1 := Lib.hid hown1
      have hl1 : (k0 :: qs).length - (1 : Int).toNat = qs.length := by simp
      rw [hl1] at hcut
      clear hdrop hHD hown1 hA1 hc1' hl1
      obtain ⟨m, hm⟩ : ∃ m, (k0 :: qs).length = m := ⟨_, rfl⟩
      rw [hm] at hcut ⊢
      have hm0 : decide (0 < (m : Int)) = true := by rw [← hm]; simp
      have hm1 : 0 < m := by rw [← hm]; simp
      have HM := Lib.hid hm
      clear hm hnc
      have hgqlt := World.block_lt_of_cell? wr _ hc0
      have hbn : wr.cell? ⟨Bn, 0, none⟩ = some (.map (some b)) := (World.cell?_of_block HI.out.bn).trans HBN.out
      have hbnlt := World.block_lt_of_cell? wr _ hbn
      have hNr : Hid (NetMem wr base top b A bs f) := HN.out.fr (Fr.of_below HI.out.bel) (fun k _ h h' => by omega)
      obtain ⟨Ar, cr, hvr⟩ : ∃ Ar cr, rowOf f k0 = .slice Ar (adj A k0).length cr := by
        obtain ⟨A', c', h⟩ := own_slice (hNr.out.rm.row k0).1
        exact ⟨A', c', by simpa using h⟩
      have HVR : Hid ((f k0).getD (Value.slice none 0 0) = .slice Ar (adj A k0).length cr) := hvr
      clear hvr
      obtain ⟨nr, hnr⟩ : ∃ nr, (adj A k0).length = nr := ⟨_, rfl⟩
      have HNR := Lib.hid hnr
      rw [hnr] at HVR
      clear hnr
      gi_wp2_with (first | ((try gi_at_lookup); refine armIn_lookup rfl _ _ _ rfl key89 Tryd.underlying77 (zero100 _) rfl (hNr.out.rm.map.alloc _) k0 rfl ?_; simp only [if_neg Bool.false_ne_true]; rw [HVR.out]))
      have HI1 : Hid (RInv W top Bn A J done (done ++ [k0]) qs qs ((adj A k0).take 0) pre pre own (.slice A1 qs.length c1) (wr.alloc (Obj.cells #[Value.int IntKind.i64 k0.p, Value.int IntKind.i64 k0.m, Value.int IntKind.i64 k0.e] 89))) := by
        have h := HI.out
        have hb : RInv W top Bn A J done (done ++ [k0]) qs qs ((adj A k0).take 0) pre pre own (.slice A1 qs.length c1) wr :=
          ⟨by simpa using h.split, HD.out, h.tree, h.don, by simp [DoneAt], h.seen, h.j, h.nbs, fun g hg => h.nq g (by have := HO1.out g hg; subst this; rfl), h.nbn, h.bel, h.bn, h.bnl, h.tw⟩
        exact hb.fr ((Fr.refl (fun _ => False) wr).alloc _) HST.out HLT.out (fun _ _ h => h) (fun h => h) (fun _ _ h => h) (fun h => h) (fun _ h => h.elim)
      have HK : Hid (done.length ≤ A.length) := by
        have h1 := HI.out.split
        have h2 := HI.out.tree.length_le
        have := congrArg List.length h1
        simp at this
        simp only [Hid]
        omega
      clear hc0 hc1 hc2 hcut hm0 hm1 hgqlt hbn hbnlt HD HO1 HM hNr
      obtain ⟨wo, rfl⟩ : ∃ wo : World, wo = wr := ⟨_, rfl⟩
      gi_loopg [4, 25] nr (fun gj v i X => ∃ (j : Nat) (pre : Pre) (qs : List Knot) (own : Nat → Prop), gj + j = nr ∧ i = .int .i64 (j : Int) ∧ RInv W top Bn A J done (done ++ [k0]) qs qs ((adj A k0).take j) pre pre own v X)
      case atStart => exact ⟨0, _, _, _, rfl, rfl, HI1.out⟩
      case round =>
        obtain ⟨j, pre', qs', own', hgj, rfl, hI'⟩ := hrel
        have HI' := Lib.hid hI'
        clear hI' HI1
        by_cases hj : j < nr
        · obtain ⟨i, hi⟩ : ∃ i, (adj A k0)[j]? = some i := ⟨_, List.getElem?_eq_getElem (by rw [HNR.out]; exact hj)⟩
          obtain ⟨a, ha, hsrc⟩ := mem_adj.1 (List.mem_of_getElem? hi)
          have hil : i < A.length := (List.getElem?_eq_some_iff.1 ha).1
          obtain ⟨g, hg⟩ : ∃ g, bs[i]? = some g := ⟨_, List.getElem?_eq_getElem (by rw [HN.out.len]; exact hil)⟩
          obtain ⟨g', hg'⟩ : ∃ g', bs[flip i]? = some g' := ⟨_, List.getElem?_eq_getElem (by rw [HN.out.len]; exact flip_lt hil HN.out.even)⟩
          have hNX : Hid (NetMem wr base top b A bs f) := HN.out.fr (Fr.of_below HI'.out.bel) (fun k _ h h' => by omega)
          have harc := hNX.out.arcs i a g g' ha hg hg'
          obtain ⟨gr, hAr, hcr⟩ : ∃ gr, Ar = some ⟨gr, 0, none⟩ ∧ wr.cell? ⟨gr, j, none⟩ = some (ptr g) := by
            have hrow := (hNX.out.rm.row k0).1
            rw [show rowOf f k0 = .slice Ar nr cr from HVR.out] at hrow
            have hl : ((adj A k0).map fun i => ptr (bs.getD i 0)).length = nr := by rw [List.length_map, HNR.out]
            rw [hl] at hrow
            obtain ⟨g1, cap1, he, _, _⟩ := hrow.form (by omega)
            injection he with hA _ _
            subst hA
            have := hrow.cells (g := g1) rfl j (ptr g) (by simp [List.getElem?_map, hi, List.getD_eq_getElem?_getD, hg])
            rw [add_plain] at this
            exact ⟨g1, rfl, this⟩
          subst hAr
          have ca0 : wr.cell? ⟨g, 0, none⟩ = some (.int .i64 a.dst.p) := by simp [World.cell?, harc, arcObj]
          have ca1 : wr.cell? ⟨g, 1, none⟩ = some (.int .i64 a.dst.m) := by simp [World.cell?, harc, arcObj]
          have ca2 : wr.cell? ⟨g, 2, none⟩ = some (.int .i64 a.dst.e) := by simp [World.cell?, harc, arcObj]
          have ca3 : wr.cell? ⟨g, 3, none⟩ = some (.int .i64 a.left) := by simp [World.cell?, harc, arcObj]
          unfold ptr at hcr
          have HARC := Lib.hid harc
          have HII := Lib.hid hi
          have HA' := Lib.hid ha
          have HG := Lib.hid hg
          have HG' := Lib.hid hg'
          have HJ := Lib.hid hgj
          have HSRC := Lib.hid hsrc
          clear harc hi ha hg hg' hgj hsrc hil
          have hnj : j ≤ 1000000 := by have h1 := adjF_length k0 0 A; have h2 := HNR.out; unfold adj at h2; omega
          by_cases hleft : a.left = 0
          · have hl0 : (a.left == 0) = true := by simp [hleft]
            have HL := Lib.hid hleft
            clear hleft
            gi_wp2
            gi_roundg (nr - (j + 1))
            case measure => have := HJ.out; omega
            case rel => exact ⟨j + 1, pre', qs', own', by omega, by go_num, HI'.out.step (HI'.out.cu.take HII.out HA'.out (fun h => absurd HL.out h))⟩
          · have hl0 : (a.left == 0) = false := by simp [hleft]
            have HL := Lib.hid hleft
            clear hleft
            by_cases hr : reached pre' a.dst
            · have HS : Hid ((seenF pre' a.dst).getD (.bool false) = .bool true) := by simp [Hid, seenF, hr]
              have HR := Lib.hid hr
              clear hr
              gi_wp2_with (refine armInG_lookup rfl _ _ _ rfl key89 Tryd.underlying108 (zero4 _) rfl HI'.out.seen a.dst rfl ?_; simp only [if_neg Bool.false_ne_true]; rw [HS.out])
              gi_roundg (nr - (j + 1))
              case measure => have := HJ.out; omega
              case rel => exact ⟨j + 1, pre', qs', own', by omega, by go_num, HI'.out.step (HI'.out.cu.take HII.out HA'.out (fun _ => HR.out))⟩
            · have HS : Hid ((seenF pre' a.dst).getD (.bool false) = .bool false) := by simp [Hid, seenF, hr]
              have HR := Lib.hid hr
              clear hr
              gi_wp2_with (first
                | (refine armInG_lookup rfl _ _ _ rfl key89 Tryd.underlying108 (zero4 _) rfl HI'.out.seen a.dst rfl ?_; simp only [if_neg Bool.false_ne_true]; rw [HS.out])
                | (gi_at_mapUpdate; refine armIn_update rfl _ _ _ (.inl rfl) key89 Tryd.underlying108 rfl HI'.out.seen a.dst rfl (.bool true) rfl ?_; intro X1 hm1 hgr1 hs1; have HM1 := Lib.hid hm1; have HGR1 := Lib.hid hgr1; clear hm1 hgr1 hs1;
                   have HI1 := Lib.hid (HI'.out.seen1 HST.out HLT.out i HGR1.out HM1.out);
                   have HT1 : Hid (Tree A (pre' ++ [(a.dst, i)])) := Tree.snoc HI1.out.tree HA'.out rfl HL.out (by rw [HSRC.out]; have h1 := HI1.out.split; have h2 : k0 ∈ src0 :: pre'.map (·.1) := (by rw [h1]; simp); simpa [reached] using h2) HR.out;
                   have harc1 := (HN.out.fr (Fr.of_below HI1.out.bel) (fun k _ h h' => by omega)).arcs i a g g' HA'.out HG.out HG'.out;
                   have e0 : X1.cell? ⟨g, 0, none⟩ = some (.int .i64 a.dst.p) := (by simp [World.cell?, harc1, arcObj]);
                   have e1 : X1.cell? ⟨g, 1, none⟩ = some (.int .i64 a.dst.m) := (by simp [World.cell?, harc1, arcObj]);
                   have e2 : X1.cell? ⟨g, 2, none⟩ = some (.int .i64 a.dst.e) := (by simp [World.cell?, harc1, arcObj]);
                   clear harc1;
                   obtain ⟨fn, tmps, assign, body, hy, hR⟩ := HY.out pre' own' a.dst i a g X1 HI1.out.j HI1.out.bel HA'.out rfl HG.out HT1.out;
                   unfold ptr at hy))
              refine ⟨by simp [Fence.wide], hR.mono ?_⟩
              clear hR hy e0 e1 e2 ca0 ca1 ca2 ca3 hcr
              rintro e Y ⟨own2, ho2, hfr2, (⟨rfl, hJ2⟩ | ⟨rfl, hJx2⟩)⟩
              · have HI2 := Lib.hid (HI1.out.yield1 HLT.out hfr2 ho2 hJ2 HT1.out)
                clear ho2 hfr2 hJ2
                have harc2 := (HN.out.fr (Fr.of_below HI2.out.bel) (fun k _ h h' => by omega)).arcs i a g g' HA'.out HG.out HG'.out
                have e0 : Y.cell? ⟨g, 0, none⟩ = some (.int .i64 a.dst.p) := (by simp [World.cell?, harc2, arcObj])
                have e1 : Y.cell? ⟨g, 1, none⟩ = some (.int .i64 a.dst.m) := (by simp [World.cell?, harc2, arcObj])
                have e2 : Y.cell? ⟨g, 2, none⟩ = some (.int .i64 a.dst.e) := (by simp [World.cell?, harc2, arcObj])
                clear harc2
                have HI3 := Lib.hid (HI2.out.fr (Y := Y.alloc (Obj.cells #[Value.int IntKind.i64 a.dst.p, Value.int IntKind.i64 a.dst.m, Value.int IntKind.i64 a.dst.e] 89)) ((Fr.refl (fun _ => False) Y).alloc _) HST.out HLT.out (fun _ _ h => h) (fun h => h) (fun _ _ h => h) (fun h => h) (fun _ h => h.elim))
                have HQL : Hid (qs'.length ≤ A.length) := by
                  have h1 := congrArg List.length HI'.out.split
                  have h2 := HI'.out.tree.length_le
                  simp at h1
                  simp only [Hid]
                  omega
                have hu4 : ∃ A' c', u4 = .slice A' qs'.length c' := by
                  obtain ⟨A', c', h, _⟩ := q_slice HI'.out.q
                  exact ⟨A', c', h⟩
                gi_wp2_with (first
                  | (gi_at_builtin; refine armIn_append_q _ rfl (.tmp 55) (.tmp 60) 109 rfl W.heap.size 89 i0 (.agg #[.int .i64 0, .int .i64 0, .int .i64 0]) 3 24 Tryd.underlying109 HI9.out.1 HI9.out.2.1 HI9.out.2.2.1 HI9.out.2.2.2 rfl (by omega) u4 qs'.length (qcells qs') rfl HI3.out.q ⟨Y.heap.size, 0, none⟩ 1 1 [.int .i64 a.dst.p, .int .i64 a.dst.m, .int .i64 a.dst.e] rfl rfl (World.news_of_block (cs := #[Value.int IntKind.i64 a.dst.p, Value.int IntKind.i64 a.dst.m, Value.int IntKind.i64 a.dst.e]) (t := 89) (fr := (0, 0)) (heap_alloc_new Y _)) (by simp [Value.oneCell']) (by omega) (by have := HQL.out; simp only [maxLen]; omega) (by have := HQL.out; omega) (by have := HI3.out.lt; omega) ?_;
                     intro v2 Z hq2 hg2 hat2; have HQ2 := Lib.hid hq2; have HG2 := Lib.hid hg2; have HAT2 := Lib.hid hat2; clear hq2 hg2 hat2))
                gi_roundg (nr - (j + 1))
                case measure => have := HJ.out; omega
                case rel =>
                  have h4 := HI3.out.queue (k := a.dst) HST.out HLT.out HG2.out (by simpa [qcells] using HQ2.out) HAT2.out
                  exact ⟨j + 1, _, _, own2, by omega, by go_num, h4.step (h4.cu.take HII.out HA'.out (fun _ => (reached_snoc _ _ _ _).2 (.inr rfl)))⟩
              · gi_wp2
                refine bodyPost_ret (results_none rfl _ _ _) rfl ?_
                refine ⟨⟨_, rfl⟩, HI1.out.bel.trans (hfr2.below (by have := HI1.out.lt; have := HI1.out.tw; omega) (fun k hk hs => by have := (HLT.out _ _ _ HI1.out.j k hs).2; omega)), .inr ⟨_, own2, HT1.out, hJx2⟩⟩
        · have hjn : nr ≤ j := by omega
          have HJN := Lib.hid hjn
          clear hjn
          have hdj : decide ((j : Int) < (nr : Int)) = false := by have := HJN.out; simp; omega
          gi_wp2
          gi_roundg (A.length - done.length)
          case measure => have := HK.out; omega
          case rel =>
            have h := HI'.out
            refine ⟨done ++ [k0], qs', pre', own', by have := HK.out; simp; omega, ?_⟩
            have hcu : DoneAt A pre' (adj A k0) := by
              have h1 := h.cu
              rwa [List.take_of_length_le (by rw [HNR.out]; exact HJN.out)] at h1
            exact ⟨h.split, h.q, h.tree, fun k hk => (List.mem_append.1 hk).elim (h.don k) (fun hk => by simp at hk; subst hk; exact hcu), by simp [DoneAt], h.seen, h.j, h.nbs, h.nq, h.nbn, h.bel, h.bn, h.bnl, h.tw⟩
end Go.Proofs.YtnhcpflenajeaaaDoor

/- 'for k, a := range n.reach()': the statement, over whatever the body keeps of its own. -/
set_option linter.unusedVariables false
set_option linter.unusedSimpArgs false
namespace Go.Proofs.YtnhcpflenajeaaaDoor
open Go.RowKit Go.Proofs.YtnhcpflenajeaaaDoorW.PrintWords Go.Proofs.YtnhcpflenajeaaaDoorW.PrintMore Mem
attribute [local go_sem] Oper.semAt_some

/-- How a round of mine may end. -/
def roundEnd (J : Pre → (Nat → Prop) → World → Prop) (Jx : Code → Pre → (Nat → Prop) → World → Prop) (own : Nat → Prop) (pre : Pre) (X : World) : Exit → Act → World → Prop
  | .normal, _, Y => ∃ own', (∀ j, own' j → own j ∨ X.heap.size ≤ j) ∧ Fr own X Y ∧ J pre own' Y
  | .ret, _, Y => ∃ own', (∀ j, own' j → own j ∨ X.heap.size ≤ j) ∧ Fr own X Y ∧ Jx .ret pre own' Y
  | .exit id, _, Y => ∃ own', (∀ j, own' j → own j ∨ X.heap.size ≤ j) ∧ Fr own X Y ∧ Jx (.exit id) pre own' Y
  | .goto t, _, Y => ∃ own', (∀ j, own' j → own j ∨ X.heap.size ≤ j) ∧ Fr own X Y ∧ Jx (.goto t) pre own' Y
  | .panic _, _, _ => False
  | .outgrown, _, _ => False

/-- J, with the loop's own book-keeping beside it. -/
def withLoop (J : Pre → (Nat → Prop) → World → Prop) (l D : Nat) (o : Obj) (pre : Pre) (own : Nat → Prop) (X : World) : Prop :=
  ∃ own1, own = (fun k => own1 k ∨ k = l ∨ k = D) ∧ ¬ own1 l ∧ ¬ own1 D ∧ J pre own1 X ∧ X.heap[l]? = some o ∧ X.heap[D]? = some (.deferred (some []))
theorem withLoop_stable {J : Pre → (Nat → Prop) → World → Prop} {l D : Nat} {o : Obj} (h : Stable J) : Stable (withLoop J l D o) := by
  rintro pre own X Y ⟨own1, rfl, h1, h2, h3, h4, h5⟩ s1 s2 s3 s4 hk
  exact ⟨own1, rfl, h1, h2, h pre own1 X Y h3 s1 s2 s3 s4 (fun k hk' => hk k (.inl hk')), (hk l (.inr (.inl rfl))).trans h4, (hk D (.inr (.inr rfl))).trans h5⟩
theorem withLoop_lies {J : Pre → (Nat → Prop) → World → Prop} {l D top : Nat} {o : Obj} (h : Lies top J) (h1 : top ≤ l) (h2 : top ≤ D) : Lies top (withLoop J l D o) := by
  rintro pre own X ⟨own1, rfl, _, _, h3, h4, h5⟩ k hk
  rcases hk with hk | rfl | rfl
  · exact h pre own1 X h3 k hk
  · exact ⟨(Array.getElem?_eq_some_iff.1 h4).1, h1⟩
  · exact ⟨(Array.getElem?_eq_some_iff.1 h5).1, h2⟩

theorem range_reach {n Bn base top b : Nat} {A : List Arc} {bs : List Nat} {f : Knot → Option Value} {g : Operand} {ps : Array Tmp} {assign body : Code} {Q : Exit → Act → World → Prop} {a : Act} {w : World}
    (hps : ps.size = 2) (hg : a.eval g = .func (.func 55) #[] #[ptr Bn])
    (hnet : NetMem w base top b A bs f) (hG : Glob w) (h2b : 2 ≤ base) (htop : base ≤ top) (hA : A.length ≤ 1000000)
    (hBn : w.cell? ⟨Bn, 0, none⟩ = some (.map (some b))) (hBt : top ≤ Bn)
    (J : Pre → (Nat → Prop) → World → Prop) (Jx : Code → Pre → (Nat → Prop) → World → Prop) (M : Act → Pre → Knot → Nat → Act → Pre → (Nat → Prop) → World → Prop)
    (own0 : Nat → Prop) (h0 : J [] own0 w) (hob : ¬ own0 Bn)
    (hlt : Lies top J) (hst : Stable J) (hltx : ∀ c, Lies top (Jx c)) (hstx : ∀ c, Stable (Jx c)) (hltm : ∀ pre k i a', Lies top (M a pre k i a')) (hstm : ∀ pre k i a', Stable (M a pre k i a'))
    (hassign : ∀ l pre own k i a0 g X, J pre own X → Below top w X → A[i]? = some a0 → a0.dst = k → bs[i]? = some g → Tree A (pre ++ [(k, i)]) →
      assign.wpIn (Fence.wide.inRound l) (n - 1 - 1) Tryd.prog (Exit.then (fun a' X' => ∃ own', (∀ j, own' j → own j ∨ X.heap.size ≤ j) ∧ Fr own X X' ∧ M a pre k i a' [] own' X') (fun _ _ _ => False))
        { tmps := (ps.zip #[.agg #[.int .i64 k.p, .int .i64 k.m, .int .i64 k.e], ptr g]).foldl (fun t (p, v) => t.setIfInBounds p v) a.tmps, defers := [] } X)
    (hbody : ∀ l pre own k i a0 g a' X, M a pre k i a' [] own X → Below top w X → A[i]? = some a0 → a0.dst = k → bs[i]? = some g → Tree A (pre ++ [(k, i)]) →
      body.wpIn (Fence.wide.inRound l) (n - 1 - 1) Tryd.prog (roundEnd J Jx own (pre ++ [(k, i)]) X) a' X)
    (hdone : ∀ D pre own X, w.heap.size ≤ D → X.heap[D]? = some (.deferred (some [])) → Tree A pre → (∀ k, reached pre k → DoneAt A pre (adj A k)) → J pre own X → ¬ own D → Below top w X →
      Q .normal { a with defers := { target := .collected D, args := #[] } :: a.defers } X)
    (hstop : ∀ D c pre own X, w.heap.size ≤ D → X.heap[D]? = some (.deferred (some [])) → Tree A pre → Jx c pre own X → ¬ own D → Below top w X →
      c.wpIn Fence.wide n Tryd.prog Q { a with defers := { target := .collected D, args := #[] } :: a.defers } X) :
    (Code.rangeFunc g ps assign body).wpIn Fence.wide n Tryd.prog Q a w := by
  have htw : top ≤ w.heap.size := hnet.rm.size
  refine wpIn_rangeFunc ?_
  intro fn hfn
  obtain ⟨rec, hrec⟩ : ∃ rec : LoopState → Option Code → Loop, rec = fun st pe => { state := st, pending := pe, fn, tmps := a.tmps, params := ps, assign, body, defers := w.heap.size } := ⟨_, rfl⟩
  obtain ⟨W1, hW1⟩ : ∃ W1, (w.alloc (.deferred (some []))).alloc (.loop (rec .ready none)) = W1 := ⟨_, rfl⟩
  have hL1 : W1.heap[w.heap.size + 1]? = some (.loop (rec .ready none)) := by
    rw [← hW1]; have := World.alloc_heap_new (w.alloc (.deferred (some []))) (.loop (rec .ready none)); rwa [World.size_alloc] at this
  have hK1 : W1.heap[w.heap.size]? = some (.deferred (some [])) := by
    rw [← hW1]; exact (Below.heap_alloc _ _ _ (by simp)).trans (World.alloc_heap_new w _)
  have hF1 : Fr (fun _ => False) w W1 := by rw [← hW1]; exact ((Fr.refl _ w).alloc _).alloc _
  have hB1 : Below top w W1 := hF1.below htw (fun _ _ h => h)
  have hlo : ∀ k, own0 k → k < w.heap.size := fun k hk => (hlt _ _ _ h0 k hk).1
  have hJ1 : withLoop J (w.heap.size + 1) w.heap.size (.loop (rec .ready none)) [] (fun k => own0 k ∨ k = w.heap.size + 1 ∨ k = w.heap.size) W1 :=
    ⟨own0, rfl, fun h => by have := hlo _ h; omega, fun h => by have := hlo _ h; omega, hst _ _ _ _ h0 hF1.size hF1.os hF1.tape hF1.output (fun k hk => hF1.block k (hlo k hk) (fun h => h)), hL1, hK1⟩
  have hBlt : Bn < w.heap.size := World.block_lt_of_cell? w _ hBn
  refine ⟨w.heap.size + 1, [{ target := .collected w.heap.size, args := #[] }], W1, { target := .fn (.func 55) #[ptr Bn], args := #[.func (.yield (w.heap.size + 1)) #[] #[]] }, W1, 55,
    #[.func (.yield (w.heap.size + 1)) #[] #[]] ++ #[ptr Bn], W1, ?_, ?_, ?_, ?_, by simp [Fence.wide], ?_⟩
  · rw [← hW1, hrec]; exact run_enterLoop_outer _ _ _ _ _
  · simp only [resolve, hg]
    simp [go_sem]
  · intro f' hf'; trivial
  · simp [invoke, go_sem, enters_of Tryd.func55 (by kernel_rfl) rfl]
  · refine CallsIn.mono (reach1_in (n - 1) (w.heap.size + 1) Bn base top b A bs f (withLoop J (w.heap.size + 1) w.heap.size (.loop (rec .ready none)))
      (fun pre own X => ∃ c, withLoop (Jx c) (w.heap.size + 1) w.heap.size (.loop (rec .done (some c))) pre own X) W1
      (hnet.fr hF1 (fun _ _ _ h => h)) (hG.below hB1 (by omega)) h2b htop hA (hF1.cell hBn (fun h => h)) hBt _ hJ1 ?_ (withLoop_lies hlt (by omega) htw) (withLoop_stable hst) ?_) ?_
    · rintro (h | h | h)
      · exact hob h
      · omega
      · omega
    · -- one round
      rintro pre own k i a0 g0 X ⟨own1, rfl, ho1, ho2, hJ, hl, hk⟩ hbX ha hd hgb ht
      have hy := run_yield (P := Tryd.prog) (args := #[.agg #[.int .i64 k.p, .int .i64 k.m, .int .i64 k.e], ptr g0]) hl (by rw [hrec]; exact hps.symm)
      rw [hrec] at hy
      refine ⟨fn, _, assign, body, hy, roundIn_of_wpIn hfn (wpIn_mono (hassign (w.heap.size + 1) pre own1 k i a0 g0 X hJ (hB1.trans hbX) ha hd hgb ht) ?_)⟩
      clear hy
      intro e a' Wa hp
      cases e with
      | normal =>
        obtain ⟨own2, hs2, hf2, hm2⟩ := hp
        have hxl : w.heap.size + 1 < X.heap.size := (Array.getElem?_eq_some_iff.1 hl).1
        have hla : Wa.heap[w.heap.size + 1]? = some (.loop (rec .ready none)) := hf2.heap hl ho1
        have hka : Wa.heap[w.heap.size]? = some (.deferred (some [])) := hf2.heap hk ho2
        have hlta : w.heap.size + 1 < Wa.heap.size := (Array.getElem?_eq_some_iff.1 hla).1
        have hn1 : ¬ own2 (w.heap.size + 1) := fun h => (hs2 _ h).elim ho1 (fun h => by omega)
        have hn2 : ¬ own2 w.heap.size := fun h => (hs2 _ h).elim ho2 (fun h => by omega)
        refine ⟨_, run_beginRound hla (by rw [hrec]), ?_⟩
        obtain ⟨Wb, hWb⟩ : ∃ Wb, Wa.putObj (w.heap.size + 1) (.loop { rec .ready none with state := .busy }) = Wb := ⟨_, rfl⟩
        have hlb : Wb.heap[w.heap.size + 1]? = some (.loop { rec .ready none with state := .busy }) := by rw [← hWb]; exact World.putObj_heap_same hlta
        have hfb : Fr (fun j => j = w.heap.size + 1) Wa Wb := by
          rw [← hWb]
          exact (Fr.refl _ _).grown (grownBy_putObj' _ _ _) (fun k e => .inl (by injection e with e; exact e.symm))
        have hkb : Wb.heap[w.heap.size]? = some (.deferred (some [])) := hfb.heap hka (by omega)
        have hmb : M a pre k i a' [] own2 Wb := hstm _ _ _ _ _ _ _ _ hm2 hfb.size hfb.os hfb.tape hfb.output (fun j hj => hfb.block j (hltm _ _ _ _ _ _ _ hm2 j hj).1 (fun e => hn1 (e ▸ hj)))
        have hbb : Below top w Wb := (hB1.trans hbX).trans (((hf2.below (by have := hbX.size; have := hF1.size; omega) (fun j hj ho => by have := (hlt _ _ _ hJ j ho).2; omega))).trans (hfb.below (by omega) (fun j hj e => by omega)))
        have e0 : (Wa.putObj (w.heap.size + 1) (.loop { state := .busy, pending := (rec .ready none).pending, fn := (rec .ready none).fn, tmps := (rec .ready none).tmps, params := (rec .ready none).params, assign := (rec .ready none).assign, body := (rec .ready none).body, defers := (rec .ready none).defers })) = Wb := hWb
        rw [e0]
        refine wpIn_mono (hbody (w.heap.size + 1) pre own2 k i a0 g0 a' Wb hmb hbb ha hd hgb ht) ?_
        have fin : ∀ (jump : Option Code) (W3 : World) (own3 : Nat → Prop), (∀ j, own3 j → own2 j ∨ Wb.heap.size ≤ j) → Fr own2 Wb W3 →
            (Instr.endRound (w.heap.size + 1) jump).run Tryd.prog W3 = .ok (.bool jump.isNone) (W3.putObj (w.heap.size + 1) (.loop (rec (if jump.isNone then .ready else .done) jump))) ∧
            (W3.putObj (w.heap.size + 1) (.loop (rec (if jump.isNone then .ready else .done) jump))).heap[w.heap.size + 1]? = some (.loop (rec (if jump.isNone then .ready else .done) jump)) ∧
            (W3.putObj (w.heap.size + 1) (.loop (rec (if jump.isNone then .ready else .done) jump))).heap[w.heap.size]? = some (.deferred (some [])) ∧
            ¬ own3 (w.heap.size + 1) ∧ ¬ own3 w.heap.size ∧
            (∀ (JJ : Pre → (Nat → Prop) → World → Prop) pre', Stable JJ → Lies top JJ → JJ pre' own3 W3 → JJ pre' own3 (W3.putObj (w.heap.size + 1) (.loop (rec (if jump.isNone then .ready else .done) jump)))) ∧
            (∀ j, own3 j ∨ j = w.heap.size + 1 ∨ j = w.heap.size → (own1 j ∨ j = w.heap.size + 1 ∨ j = w.heap.size) ∨ X.heap.size ≤ j) ∧
            Fr (fun j => own1 j ∨ j = w.heap.size + 1 ∨ j = w.heap.size) X (W3.putObj (w.heap.size + 1) (.loop (rec (if jump.isNone then .ready else .done) jump))) := by
          intro jump W3 own3 hs3 hf3
          have hl3 := hf3.heap hlb hn1
          have hk3 := hf3.heap hkb hn2
          have hlt3 : w.heap.size + 1 < W3.heap.size := (Array.getElem?_eq_some_iff.1 hl3).1
          have hr := run_endRound (P := Tryd.prog) jump hl3
          have hn1' : ¬ own3 (w.heap.size + 1) := fun h => (hs3 _ h).elim hn1 (fun h => by have := hfb.size; omega)
          have hn2' : ¬ own3 w.heap.size := fun h => (hs3 _ h).elim hn2 (fun h => by have := hfb.size; omega)
          have hf4 : Fr (fun j => j = w.heap.size + 1) W3 (W3.putObj (w.heap.size + 1) (.loop (rec (if jump.isNone then .ready else .done) jump))) :=
            (Fr.refl _ _).grown (grownBy_putObj' _ _ _) (fun k e => .inl (by injection e with e; exact e.symm))
          refine ⟨by rw [hrec] at hr ⊢; exact hr, World.putObj_heap_same hlt3, (World.putObj_heap_other (by omega)).trans hk3, hn1', hn2', ?_, ?_, ?_⟩
          · intro JJ pre' hsJ hlJ hJJ
            exact hsJ _ _ _ _ hJJ hf4.size hf4.os hf4.tape hf4.output (fun j hj => hf4.block j (hlJ _ _ _ hJJ j hj).1 (fun e => hn1' (e ▸ hj)))
          · rintro j (hj | hj)
            · rcases hs3 j hj with hj | hj
              · rcases hs2 j hj with hj | hj
                · exact .inl (.inl hj)
                · exact .inr hj
              · exact .inr (by have := hfb.size; have := hf2.size; omega)
            · exact .inl (.inr hj)
          · have hg1 : Fr (fun j => own1 j ∨ j = w.heap.size + 1 ∨ j = w.heap.size) X Wa := hf2.mono (fun j _ h => .inl h)
            refine ((hg1.then hfb (fun j _ e => .inl (.inr (.inl e)))).then hf3 (fun j hj ho => ?_)).then hf4 (fun j _ e => .inl (.inr (.inl e)))
            rcases hs2 j ho with ho | ho
            · exact .inl (.inl ho)
            · exact .inr ho
        rintro e a3 W3 hp
        cases e with
        | normal =>
          obtain ⟨own3, hs3, hf3, hJ3⟩ := hp
          obtain ⟨hr, hl4, hk4, hn1', hn2', hJJ, hsub, hfr⟩ := fin none W3 own3 hs3 hf3
          exact ⟨_, _, hr, _, hsub, hfr, .inl ⟨rfl, own3, rfl, hn1', hn2', hJJ J _ hst hlt hJ3, hl4, hk4⟩⟩
        | ret =>
          obtain ⟨own3, hs3, hf3, hJ3⟩ := hp
          obtain ⟨hr, hl4, hk4, hn1', hn2', hJJ, hsub, hfr⟩ := fin (some .ret) W3 own3 hs3 hf3
          exact ⟨_, _, hr, _, hsub, hfr, .inr ⟨rfl, _, own3, rfl, hn1', hn2', hJJ _ _ (hstx _) (hltx _) hJ3, hl4, hk4⟩⟩
        | exit id =>
          obtain ⟨own3, hs3, hf3, hJ3⟩ := hp
          obtain ⟨hr, hl4, hk4, hn1', hn2', hJJ, hsub, hfr⟩ := fin (some (.exit id)) W3 own3 hs3 hf3
          exact ⟨_, _, hr, _, hsub, hfr, .inr ⟨rfl, _, own3, rfl, hn1', hn2', hJJ _ _ (hstx _) (hltx _) hJ3, hl4, hk4⟩⟩
        | goto t =>
          obtain ⟨own3, hs3, hf3, hJ3⟩ := hp
          obtain ⟨hr, hl4, hk4, hn1', hn2', hJJ, hsub, hfr⟩ := fin (some (.goto t)) W3 own3 hs3 hf3
          exact ⟨_, _, hr, _, hsub, hfr, .inr ⟨rfl, _, own3, rfl, hn1', hn2', hJJ _ _ (hstx _) (hltx _) hJ3, hl4, hk4⟩⟩
        | panic ch => exact hp.elim
        | outgrown => exact hp.elim
      | ret => exact hp.elim
      | exit id => exact hp.elim
      | goto t => exact hp.elim
      | panic ch => exact hp.elim
      | outgrown => exact hp.elim
    · -- behind the iterator
      rintro e W2 ⟨⟨v, rfl⟩, hb2, (⟨pre, own, ht, hd, own1, rfl, ho1, ho2, hJ, hl, hk⟩ | ⟨pre, own, ht, c, own1, rfl, ho1, ho2, hJ, hl, hk⟩)⟩
      · have hr := run_endLoop (P := Tryd.prog) hl (by rw [hrec]; simp)
        refine ⟨none, _, by rw [hrec] at hr; exact hr, ?_⟩
        have hg4 := fun o => grownBy_putObj' W2 (w.heap.size + 1) o
        refine hdone _ pre own1 _ (Nat.le_refl _) ((World.putObj_heap_other (by omega)).trans hk) ht hd (hst _ _ _ _ hJ (hg4 _).size (hg4 _).os (hg4 _).tape (hg4 _).output (fun j hj => World.putObj_heap_other (fun e => ho1 (e ▸ hj)))) ho2 ((hB1.trans hb2).grown (hg4 _) (Nat.le_trans htw (Nat.le_trans hF1.size hb2.size)) (fun k e => by cases e; omega))
      · have hr := run_endLoop (P := Tryd.prog) hl (by rw [hrec]; simp)
        refine ⟨some c, _, by rw [hrec] at hr; exact hr, ?_⟩
        have hg4 := fun o => grownBy_putObj' W2 (w.heap.size + 1) o
        exact hstop _ c pre own1 _ (Nat.le_refl _) ((World.putObj_heap_other (by omega)).trans hk) ht (hstx _ _ _ _ _ hJ (hg4 _).size (hg4 _).os (hg4 _).tape (hg4 _).output (fun j hj => World.putObj_heap_other (fun e => ho1 (e ▸ hj)))) ho2 ((hB1.trans hb2).grown (hg4 _) (Nat.le_trans htw (Nat.le_trans hF1.size hb2.size)) (fun k e => by cases e; omega))
end Go.Proofs.YtnhcpflenajeaaaDoor

/- The way back from the sink; what a push does in memory; a loop whose activation gathers marks. -/
set_option linter.unusedVariables false
set_option linter.unusedSimpArgs false
namespace Go.Proofs.YtnhcpflenajeaaaDoor
open Go.RowKit Go.Proofs.YtnhcpflenajeaaaDoorW.PrintWords Go.Proofs.YtnhcpflenajeaaaDoorW.PrintMore Mem

theorem Tree.at {A : List Arc} {pre : Pre} (h : Tree A pre) : ∀ (j : Nat) (k : Knot) (i : Nat), pre[j]? = some (k, i) →
    ∃ a, A[i]? = some a ∧ a.dst = k ∧ a.left ≠ 0 ∧ (a.src = src0 ∨ ∃ j' i', j' < j ∧ pre[j']? = some (a.src, i')) := by
  induction h with
  | nil => simp
  | @snoc pre k i a h ha hd hl hs hk ih =>
    intro j k' i' hj
    by_cases hlt : j < pre.length
    · rw [List.getElem?_append_left hlt] at hj
      obtain ⟨a', h1, h2, h3, h4⟩ := ih j k' i' hj
      refine ⟨a', h1, h2, h3, h4.imp id ?_⟩
      rintro ⟨j', i2, h5, h6⟩
      exact ⟨j', i2, h5, by rw [List.getElem?_append_left (by omega)]; exact h6⟩
    · rw [List.getElem?_append_right (by omega)] at hj
      have hj0 : j - pre.length = 0 := by
        have := (List.getElem?_eq_some_iff.1 hj).1
        simp at this; omega
      rw [hj0] at hj
      simp at hj
      obtain ⟨rfl, rfl⟩ := hj
      refine ⟨a, ha, hd, hl, ?_⟩
      rcases hs with hs | hs
      · exact .inl hs
      · obtain ⟨x, hx, hx'⟩ := List.mem_map.1 hs
        obtain ⟨j', hj', hx2⟩ := List.getElem_of_mem hx
        refine .inr ⟨j', x.2, by omega, ?_⟩
        rw [List.getElem?_append_left hj', List.getElem?_eq_getElem hj', hx2, ← hx']
theorem Tree.inj {A : List Arc} {pre : Pre} (h : Tree A pre) {j j' : Nat} {k : Knot} {i i' : Nat} (h1 : pre[j]? = some (k, i)) (h2 : pre[j']? = some (k, i')) : j = j' := by
  have hn := (List.nodup_cons.1 h.nodup).2
  have e1 : (pre.map (·.1))[j]? = some k := by simp [h1]
  have e2 : (pre.map (·.1))[j']? = some k := by simp [h2]
  exact (List.getElem?_inj (List.getElem?_eq_some_iff.1 e1).1 hn).1 (e1.trans e2.symm)
theorem Tree.ne_src {A : List Arc} {pre : Pre} (h : Tree A pre) {j : Nat} {k : Knot} {i : Nat} (h1 : pre[j]? = some (k, i)) : k ≠ src0 := by
  rintro rfl
  exact (List.nodup_cons.1 h.nodup).1 (List.mem_map.2 ⟨_, List.mem_of_getElem? h1, rfl⟩)
/-- What has come lies within whatever is closed. -/
theorem Tree.within {A : List Arc} {pre : Pre} (h : Tree A pre) (S : Knot → Bool) (hs : S src0 = true) (hc : ∀ (i : Nat) (a : Arc), A[i]? = some a → S a.src = true → a.left ≠ 0 → S a.dst = true) : ∀ k, reached pre k → S k = true := by
  induction h with
  | nil =>
    rintro k (rfl | h)
    · exact hs
    · simp at h
  | @snoc pre k i a h ha hd hl hs' hk ih =>
    intro x hx
    rcases (reached_snoc _ _ _ _).1 hx with hx | rfl
    · exact ih x hx
    · rw [← hd]; exact hc i a ha (ih _ hs') hl

/-- The map 'by'. -/
def byF (bs : List Nat) (pre : Pre) : Knot → Option Value := fun k => (pre.find? (fun x => decide (x.1 = k))).map fun x => ptr (bs.getD x.2 0)
theorem byF_snoc (bs : List Nat) (pre : Pre) (k : Knot) (i g : Nat) (hk : k ∉ pre.map (·.1)) (hg : bs[i]? = some g) : upd (byF bs pre) k (ptr g) = byF bs (pre ++ [(k, i)]) := by
  funext x
  unfold upd byF
  rw [List.find?_append]
  by_cases hx : x = k
  · subst hx
    have : pre.find? (fun y => decide (y.1 = x)) = none := by
      rw [List.find?_eq_none]
      intro y hy
      simp only [decide_eq_true_eq]
      intro e
      exact hk (List.mem_map.2 ⟨y, hy, e⟩)
    simp [this, List.getD_eq_getElem?_getD, hg]
  · simp [hx]
    cases pre.find? (fun y => decide (y.1 = x)) <;> simp [Ne.symm hx]
theorem byF_none (bs : List Nat) (pre : Pre) (k : Knot) (hk : k ∉ pre.map (·.1)) : byF bs pre k = none := by
  unfold byF
  rw [Option.map_eq_none_iff, List.find?_eq_none]
  intro y hy
  simp only [decide_eq_true_eq]
  intro e
  exact hk (List.mem_map.2 ⟨y, hy, e⟩)
theorem byF_at {A : List Arc} {pre : Pre} (h : Tree A pre) (bs : List Nat) {j : Nat} {k : Knot} {i g : Nat} (h1 : pre[j]? = some (k, i)) (hg : bs[i]? = some g) : byF bs pre k = some (ptr g) := by
  unfold byF
  cases hf : pre.find? (fun x => decide (x.1 = k)) with
  | none =>
    rw [List.find?_eq_none] at hf
    have := hf _ (List.mem_of_getElem? h1)
    simp at this
  | some x =>
    have hx := List.find?_some hf
    simp only [decide_eq_true_eq] at hx
    obtain ⟨j', hj', hx2⟩ := List.getElem_of_mem (List.mem_of_find?_eq_some hf)
    have h2 : pre[j']? = some (k, x.2) := by rw [List.getElem?_eq_getElem hj', hx2, ← hx]
    have := h.inj h1 h2
    subst this
    rw [h1] at h2
    injection h2 with h2
    simp only [Prod.mk.injEq] at h2
    simp [← h2.2, List.getD_eq_getElem?_getD, hg]

theorem Way.snoc {A : List Arc} {s t : Knot} {l : List Nat} (h : Way A s t l) {i : Nat} {a : Arc} (ha : A[i]? = some a) (hd : a.dst = s) : Way A a.src t (l ++ [i]) := by
  induction h with
  | nil => exact .cons ha hd .nil
  | cons ha' hd' h ih => exact .cons ha' hd' ih

/-- The way that has been gone from the sink back to k. -/
structure Gone (A : List Arc) (pre : Pre) (k : Knot) (j : Nat) (l : List Nat) (more : Int) : Prop where
  way : Way A k snk l
  nd : l.Nodup
  at_ : (k = src0 ∧ j = 0) ∨ (∃ i j', j = j' + 1 ∧ pre[j']? = some (k, i))
  far : ∀ i ∈ l, ∃ j' k', j ≤ j' ∧ pre[j']? = some (k', i)
  m1 : 1 ≤ more
  m2 : more ≤ 1073741824
  left : ∀ i ∈ l, ∀ a, A[i]? = some a → more ≤ a.left
theorem Gone.start {A : List Arc} {pre : Pre} (h : snk ∈ pre.map (·.1)) : ∃ j, j ≤ pre.length ∧ Gone A pre snk j [] 1073741824 := by
  obtain ⟨x, hx, hx'⟩ := List.mem_map.1 h
  obtain ⟨j', hj', hx2⟩ := List.getElem_of_mem hx
  exact ⟨j' + 1, by omega, .nil, List.nodup_nil, .inr ⟨x.2, j', rfl, by rw [List.getElem?_eq_getElem hj', hx2, ← hx']⟩, by simp, by omega, by omega, by simp⟩
theorem Gone.next {A : List Arc} {pre : Pre} (ht : Tree A pre) {k : Knot} {j j' : Nat} {l : List Nat} {more : Int} (h : Gone A pre k j l more) (hj : j = j' + 1) {i : Nat} (hi : pre[j']? = some (k, i))
    {a : Arc} (ha : A[i]? = some a) (hp : 0 ≤ a.left) : ∃ j2, j2 < j ∧ Gone A pre a.src j2 (l ++ [i]) (min more a.left) := by
  obtain ⟨a', ha', hd, hl, hs⟩ := ht.at j' k i hi
  rw [ha] at ha'
  injection ha' with ha'
  subst ha'
  have hfar : ∀ i' ∈ l, ∃ j3 k', j ≤ j3 ∧ pre[j3]? = some (k', i') := h.far
  have hni : i ∉ l := by
    intro hm
    obtain ⟨j3, k', h3, h4⟩ := hfar i hm
    obtain ⟨a3, ha3, hd3, _⟩ := ht.at j3 k' i h4
    rw [ha] at ha3
    injection ha3 with ha3
    subst ha3
    rw [hd] at hd3
    subst hd3
    have := ht.inj hi h4
    omega
  have key : ∀ j2, j2 < j → ((a.src = src0 ∧ j2 = 0) ∨ ∃ i j', j2 = j' + 1 ∧ pre[j']? = some (a.src, i)) → Gone A pre a.src j2 (l ++ [i]) (min more a.left) := by
    intro j2 hj2 hat
    refine ⟨h.way.snoc ha hd, ?_, hat, ?_, ?_, ?_, ?_⟩
    · refine List.nodup_append.2 ⟨h.nd, by simp, fun x hx y hy e => ?_⟩
      simp at hy; subst hy; subst e; exact hni hx
    · intro i' hi'
      rcases List.mem_append.1 hi' with hi' | hi'
      · obtain ⟨j3, k', h3, h4⟩ := hfar i' hi'
        exact ⟨j3, k', by omega, h4⟩
      · simp at hi'; subst hi'; exact ⟨j', k, by omega, hi⟩
    · have := h.m1; omega
    · have := h.m2; omega
    · intro i' hi' a' ha'
      rcases List.mem_append.1 hi' with hi' | hi'
      · have := h.left i' hi' a' ha'; omega
      · simp at hi'; subst hi'; rw [ha] at ha'; injection ha' with ha'; subst ha'; omega
  rcases hs with hs | ⟨j3, i3, h3, h4⟩
  · exact ⟨0, by omega, key 0 (by omega) (.inl ⟨hs, rfl⟩)⟩
  · exact ⟨j3 + 1, by omega, key _ (by omega) (.inr ⟨i3, j3, rfl, h4⟩)⟩

/-! ### Pushing, in memory -/
theorem NetMem.up {w : World} {base top b : Nat} {A : List Arc} {bs : List Nat} {f : Knot → Option Value} (h : NetMem w base top b A bs f) {top' : Nat} (h1 : top ≤ top') (h2 : top' ≤ w.heap.size) : NetMem w base top' b A bs f :=
  ⟨h.rm.up h1 h2, h.len, h.nd, fun g hg => ⟨(h.rng g hg).1, Nat.lt_of_lt_of_le (h.rng g hg).2 h1⟩, h.even, h.pair, h.arcs⟩
theorem NetMem.down {w : World} {base top b : Nat} {A : List Arc} {bs : List Nat} {f : Knot → Option Value} {w0 : World} {A0 : List Arc} (h : NetMem w base top b A bs f) {top' : Nat} (h0 : NetMem w0 base top' b A0 bs f) (hs : top' ≤ w.heap.size) : NetMem w base top' b A bs f :=
  ⟨⟨h.rm.lo, h0.rm.hi, hs, h.rm.map, fun k v hv => ⟨(h.rm.rows k v hv).1, (h0.rm.rows k v hv).2⟩, h.rm.none, h.rm.apart⟩, h.len, h.nd, h0.rng, h.even, h.pair, h.arcs⟩
theorem NetMem.backs {w : World} {base top b : Nat} {A : List Arc} {bs : List Nat} {f : Knot → Option Value} (h : NetMem w base top b A bs f) : Backs A := by
  have key : ∀ (A : List Arc), A.length % 2 = 0 → (∀ (i : Nat) (a a' : Arc), A[i]? = some a → A[flip i]? = some a' → a'.src = a.dst ∧ a'.dst = a.src) → Backs A := by
    intro A
    induction A using Backs.induct with
    | case1 a b l ih =>
      intro he hp
      refine ⟨(hp 0 a b rfl rfl).1, (hp 0 a b rfl rfl).2, ih (by simp at he; omega) (fun i x x' hx hx' => hp (i + 2) x x' (by simpa using hx) (by rw [flip_add2]; simpa using hx'))⟩
    | case2 => intros; trivial
    | case3 => intro h; simp at h
  exact key A h.even h.pair
theorem adj_push (A : List Arc) (d : Int) (i : Nat) (k : Knot) : adj (push A d i) k = adj A k := by
  have key : ∀ (A B : List Arc) (n : Nat), ends A = ends B → adjF k n A = adjF k n B := by
    intro A
    induction A with
    | nil => intro B n h; cases B with
      | nil => rfl
      | cons x l => simp [ends] at h
    | cons a l ih =>
      intro B n h
      cases B with
      | nil => simp [ends] at h
      | cons x m =>
        simp only [ends, List.map_cons, List.cons.injEq, Prod.mk.injEq] at h
        unfold adjF
        rw [h.1.1, ih m (n + 1) h.2]
  exact key _ _ 0 (ends_push A d i)
theorem push_get (A : List Arc) (d : Int) (i j : Nat) : (push A d i)[j]? = (A[j]?).map fun a => if i = j then a.more (-d) else if flip i = j then a.more d else a := by
  unfold push
  rw [List.getElem?_modify, List.getElem?_modify]
  have hne := flip_ne i
  cases A[j]? with
  | none => simp
  | some a =>
    by_cases h1 : i = j
    · subst h1; simp [hne]
    · by_cases h2 : flip i = j <;> simp [h1, h2]
theorem NetMem.push {w w' : World} {base top b : Nat} {A : List Arc} {bs : List Nat} {f : Knot → Option Value} (h : NetMem w base top b A bs f) {i g g' : Nat} {a a' : Arc} (ha : A[i]? = some a) (ha' : A[flip i]? = some a') (hg : bs[i]? = some g) (hg' : bs[flip i]? = some g') (d : Int)
    (hw : w' = (w.setCell ⟨g, 3, none⟩ (.int .i64 (a.left - d))).setCell ⟨g', 3, none⟩ (.int .i64 (a'.left + d))) : NetMem w' base top b (push A d i) bs f ∧ Fr (fun k => k ∈ bs) w w' := by
  have hlen := h.len
  have hil : i < A.length := (List.getElem?_eq_some_iff.1 ha).1
  have hgg : g ≠ g' := by
    intro e
    subst e
    have := (List.getElem?_inj (by rw [hlen]; exact hil) h.nd).1 (hg.trans hg'.symm)
    exact flip_ne i this.symm
  have hfr : Fr (fun k => k ∈ bs) w w' := by
    rw [hw]
    exact ((Fr.refl _ w).setCell (p := ⟨g, 3, none⟩) (List.mem_of_getElem? hg) _).setCell (p := ⟨g', 3, none⟩) (List.mem_of_getElem? hg') _
  have hmap : ∀ k ∈ bs, base ≤ k ∧ k < top := h.rng
  have hcells : ∀ k ∈ bs, ∃ cs t fz, w.heap[k]? = some (.cells cs t fz) := by
    intro k hk
    obtain ⟨j, hj, hjk⟩ := List.getElem_of_mem hk
    have hjl : j < A.length := by rw [← hlen]; exact hj
    obtain ⟨x, hx⟩ : ∃ x, A[j]? = some x := ⟨_, List.getElem?_eq_getElem hjl⟩
    have hfl : flip j < bs.length := by rw [hlen]; exact flip_lt hjl h.even
    exact ⟨_, _, _, h.arcs j x k _ hx (by rw [List.getElem?_eq_getElem hj, hjk]) (List.getElem?_eq_getElem hfl)⟩
  have hne : b ∉ bs := by
    intro hb
    obtain ⟨cs, t, fz, hc⟩ := hcells b hb
    obtain ⟨es, c, h1, _⟩ := h.rm.map
    rw [h1] at hc; cases hc
  refine ⟨⟨⟨h.rm.lo, h.rm.hi, by have := hfr.size; have := h.rm.size; omega, h.rm.map.fr hfr hne, ?_, ?_, h.rm.apart⟩, by rw [h.len, push_length], h.nd, h.rng, by rw [push_length]; exact h.even, ?_, ?_⟩, hfr⟩
  · intro k v hv
    obtain ⟨r1, r2⟩ := h.rm.rows k v hv
    rw [adj_push]
    refine ⟨own_fr r1 hfr (fun k' hk' hm => ?_), r2⟩
    obtain ⟨j, hj, hjk⟩ := List.getElem_of_mem hm
    have hjl : j < A.length := by rw [← hlen]; exact hj
    obtain ⟨x, hx⟩ : ∃ x, A[j]? = some x := ⟨_, List.getElem?_eq_getElem hjl⟩
    have hfl : flip j < bs.length := by rw [hlen]; exact flip_lt hjl h.even
    have hc := h.arcs j x k' _ hx (by rw [List.getElem?_eq_getElem hj, hjk]) (List.getElem?_eq_getElem hfl)
    exact own_ne_cells r1 hc (by decide) hk'
  · intro k hk
    rw [adj_push]
    exact h.rm.none k hk
  · intro j x x' hx hx'
    rw [push_get] at hx hx'
    obtain ⟨y, hy, rfl⟩ := Option.map_eq_some_iff.1 hx
    obtain ⟨y', hy', rfl⟩ := Option.map_eq_some_iff.1 hx'
    have h0 := h.pair j y y' hy hy'
    have e1 : ∀ (c1 c2 : Prop) [Decidable c1] [Decidable c2] (z : Arc), (if c1 then z.more (-d) else if c2 then z.more d else z).src = z.src := by
      intro c1 c2 _ _ z; split
      · rfl
      · split <;> rfl
    have e2 : ∀ (c1 c2 : Prop) [Decidable c1] [Decidable c2] (z : Arc), (if c1 then z.more (-d) else if c2 then z.more d else z).dst = z.dst := by
      intro c1 c2 _ _ z; split
      · rfl
      · split <;> rfl
    rw [e1, e1, e2, e2]
    exact h0
  · intro j x k k' hx hk hk'
    rw [push_get] at hx
    obtain ⟨y, hy, rfl⟩ := Option.map_eq_some_iff.1 hx
    have harc := h.arcs j y k k' hy hk hk'
    have hbl : ∀ {j1 j2 k1 k2 : Nat}, bs[j1]? = some k1 → bs[j2]? = some k2 → j1 ≠ j2 → k1 ≠ k2 := by
      intro j1 j2 k1 k2 h1 h2 hn e
      subst e
      exact hn ((List.getElem?_inj (List.getElem?_eq_some_iff.1 h1).1 h.nd).1 (h1.trans h2.symm))
    have hset : ∀ (W : World) (a0 : Arc) (v : Int) (bk : Nat), W.heap[k]? = some (arcObj a0 bk) → (W.setCell ⟨k, 3, none⟩ (.int .i64 v)).heap[k]? = some (arcObj ⟨a0.src, a0.dst, v⟩ bk) := by
      intro W a0 v bk hW
      obtain ⟨hlt, hE⟩ := Array.getElem?_eq_some_iff.1 hW
      show (W.heap.modify k _)[k]? = _
      rw [Array.getElem?_eq_getElem (by rw [Array.size_modify]; exact hlt), Array.getElem_modify_self, hE]
      rfl
    rw [hw]
    by_cases h1 : i = j
    · subst h1
      have ek : k = g := Option.some.inj (hk.symm.trans hg)
      subst ek
      have ea : y = a := Option.some.inj (hy.symm.trans ha)
      subst ea
      rw [Below.heap_setCell _ _ _ _ (show k ≠ g' from hgg), hset w y _ _ harc]
      simp [Arc.more, Int.sub_eq_add_neg]
    · by_cases h2 : flip i = j
      · subst h2
        have ek : k = g' := Option.some.inj (hk.symm.trans hg')
        subst ek
        have ea : y = a' := Option.some.inj (hy.symm.trans ha')
        subst ea
        rw [hset _ y _ k' ((Below.heap_setCell _ _ _ _ (show k ≠ g from Ne.symm hgg)).trans harc)]
        simp [h1, Arc.more]
      · rw [Below.heap_setCell _ _ _ _ (show k ≠ g' from hbl hk hg' (Ne.symm h2)), Below.heap_setCell _ _ _ _ (show k ≠ g from hbl hk hg (Ne.symm h1)), harc]
        simp [h1, h2]

/-! ### Marks -/
/-- The activation's deferred calls are marks of loops that are over: each block is empty. -/
def Marks (B : Nat) (ds : List Deferred) (W : World) : Prop := (∀ d ∈ ds, ∃ D, d = { target := .collected D, args := #[] } ∧ B ≤ D ∧ W.heap[D]? = some (.deferred (some []))) ∧ ds.Nodup
theorem Marks.fr {B : Nat} {ds : List Deferred} {W W' : World} {S : Nat → Prop} (h : Marks B ds W) (hf : Fr S W W') (hS : ∀ D, B ≤ D → W.heap[D]? = some (.deferred (some [])) → ¬ S D) : Marks B ds W' :=
  ⟨fun d hd => by obtain ⟨D, h1, h2, h3⟩ := h.1 d hd; exact ⟨D, h1, h2, hf.heap h3 (hS D h2 h3)⟩, h.2⟩
theorem Marks.cons {B : Nat} {ds : List Deferred} {W : World} {D : Nat} (h : Marks B ds W) (hB : B ≤ D) (hD : W.heap[D]? = some (.deferred (some []))) (hn : ∀ d ∈ ds, d ≠ { target := .collected D, args := #[] }) :
    Marks B ({ target := .collected D, args := #[] } :: ds) W :=
  ⟨fun d hd => by
    rcases List.mem_cons.1 hd with rfl | hd
    · exact ⟨D, rfl, hB, hD⟩
    · exact h.1 d hd, List.nodup_cons.2 ⟨fun hm => hn _ hm rfl, h.2⟩⟩
theorem Marks.lt {B : Nat} {ds : List Deferred} {W : World} {D : Nat} (h : Marks B ds W) (hm : ({ target := .collected D, args := #[] } : Deferred) ∈ ds) : D < W.heap.size := by
  obtain ⟨D', h1, h2, h3⟩ := h.1 _ hm
  injection h1 with h1 _
  injection h1 with h1
  subst h1
  exact (Array.getElem?_eq_some_iff.1 h3).1
theorem leaves_marks {F : Fence} {n : Nat} {P : Program} {fn : Func} {tmps : Array Value} {R : Ending → World → Prop} {B : Nat} : ∀ (ds : List Deferred) (W : World), Marks B ds W →
    (∀ W', Fr (fun k => B ≤ k ∧ W.heap[k]? = some (.deferred (some []))) W W' → LeavesIn F n P fn tmps R [] .returning W') → LeavesInM F n P fn tmps R ds .returning W
  | [], W, _, h => h W (Fr.refl _ W)
  | d :: ds, W, hm, h => by
    obtain ⟨D, rfl, hB, hD⟩ := hm.1 d (List.mem_cons_self ..)
    have hf : Fr (fun k => k = D) W (W.putObj D (.deferred none)) := (Fr.refl _ W).grown (grownBy_putObj' W D _) (fun k e => .inl (by injection e with e; exact e.symm))
    refine ⟨by simp, .inl ⟨D, _, rfl, run_takeDeferred hD, leaves_marks (B := B) ds _ ⟨fun d' hd' => ?_, (List.nodup_cons.1 hm.2).2⟩ (fun W' hW' => h W' ?_)⟩⟩
    · obtain ⟨D', rfl, h2, h3⟩ := hm.1 d' (List.mem_cons_of_mem _ hd')
      refine ⟨D', rfl, h2, (World.putObj_heap_other (fun e => ?_)).trans h3⟩
      subst e
      exact (List.nodup_cons.1 hm.2).1 hd'
    · refine (hf.mono (fun k _ e => by subst e; exact ⟨hB, hD⟩)).then hW' (fun k _ hk => ?_)
      refine .inl ⟨hk.1, ?_⟩
      by_cases e : k = D
      · subst e; exact hD
      · rw [← World.putObj_heap_other (w := W) e (o := .deferred none)]; exact hk.2
end Go.Proofs.YtnhcpflenajeaaaDoor

/- 'fill': as many as can go. -/
set_option linter.unusedVariables false
set_option linter.unusedSimpArgs false
namespace Go.Proofs.YtnhcpflenajeaaaDoor
open Go.RowKit Go.Proofs.YtnhcpflenajeaaaDoorW.PrintWords Go.Proofs.YtnhcpflenajeaaaDoorW.PrintMore Mem
attribute [local go_sem] Oper.semAt_some

theorem reachOf_in (n b : Nat) (w : World) : CallsIn Fence.wide n Tryd.prog 43 #[.map (some b)] w fun e w' => e = .returned (.func (.func 55) #[] #[ptr w.heap.size]) ∧ w' = w.alloc (.cells #[.map (some b)] 77) := by
  refine callsIn_of_wp Tryd.func43 rfl trivial ?_ rfl
  simp only [Tryd.ntmps43, List.size_toArray, List.length_cons, List.length_nil, Nat.reduceAdd, Nat.reduceSub, Array.replicate_succ, Array.replicate_zero, List.push_toArray, List.append_toArray, List.nil_append, List.cons_append]
  gi_wp2
  refine bodyPost_ret (results_tmp rfl _ _ _) rfl ?_
  exact ⟨rfl, rfl⟩

theorem cut_le {C : Int} (hC : 0 ≤ C) (S : Knot → Bool) : ∀ (A : List Arc), Caps C A → Flow.cut S (pairs A) ≤ C * (A.length : Int)
  | [], _ => by simp [pairs, Flow.cut]
  | [_], _ => by simp [pairs, Flow.cut]; omega
  | x :: y :: l, h => by
    have ih := cut_le hC S l (fun p hp => h p (by simp [pairs, hp]))
    have h0 := h ⟨x.src, x.dst, x.left, y.left⟩ (by simp [pairs])
    simp only at h0
    simp only [pairs, Flow.cut, List.length_cons]
    have e : C * (((l.length + 1 + 1 : Nat)) : Int) = C * (l.length : Int) + C + C := by
      rw [show (((l.length + 1 + 1 : Nat)) : Int) = (l.length : Int) + 1 + 1 by omega, Int.mul_add, Int.mul_add, Int.mul_one]
    rw [e]
    split <;> omega
theorem Fl.bound {A A1 : List Arc} {m C : Int} (h : Fl A A1 m) (hz : ∀ S : Knot → Bool, Flow.net S (pairs A) = 0) (hC : 0 ≤ C) (hc : Caps C A1) : m ≤ C * (A1.length : Int) := by
  have h1 := h.net (fun k => decide (k = src0))
  have h2 := Flow.net_le_cut (fun k => decide (k = src0)) _ hc.fine
  have h3 := cut_le hC (fun k => decide (k = src0)) _ hc
  rw [hz] at h1
  have e : Flow.ind (decide (src0 = src0)) - Flow.ind (decide (snk = src0)) = 1 := by decide
  rw [e] at h1
  omega
theorem cell_new' (X : World) (cs : Array Value) (t : TypeId) {fz : Nat × Nat} {j k : Nat} {v : Value} (hk : k = X.heap.size) (hj : cs[j]? = some v) : (X.alloc (.cells cs t fz)).cell? ⟨k, j, none⟩ = some v := by
  subst hk
  unfold World.cell?
  rw [heap_alloc_new]
  exact hj
/-- What the body of the search's loop keeps: the map 'by'. -/
def FJ (bs : List Nat) (bm : Nat) (pre : Pre) (own : Nat → Prop) (X : World) : Prop :=
  own = (fun j => j = bm ∨ j = bm + 1) ∧ MapFn kv X bm (byF bs pre) ∧ X.cell? ⟨bm + 1, 0, none⟩ = some (.map (some bm)) ∧ snk ∉ pre.map (·.1)
def FJx (bs : List Nat) (bm : Nat) (c : Code) (pre : Pre) (own : Nat → Prop) (X : World) : Prop :=
  c = .exit 2 ∧ own = (fun j => j = bm ∨ j = bm + 1) ∧ MapFn kv X bm (byF bs pre) ∧ X.cell? ⟨bm + 1, 0, none⟩ = some (.map (some bm)) ∧ snk ∈ pre.map (·.1)
def FM (bs : List Nat) (bm : Nat) (a : Act) (pre : Pre) (k : Knot) (i : Nat) (a' : Act) (_ : Pre) (own : Nat → Prop) (X : World) : Prop :=
  ∃ kb g, own = (fun j => j = bm ∨ j = bm + 1 ∨ j = kb) ∧ bm + 1 < kb ∧ bs[i]? = some g ∧ MapFn kv X bm (byF bs pre) ∧ X.cell? ⟨bm + 1, 0, none⟩ = some (.map (some bm)) ∧ snk ∉ pre.map (·.1) ∧
    X.cell? ⟨kb, 0, none⟩ = some (.int .i64 k.p) ∧ X.cell? ⟨kb, 1, none⟩ = some (.int .i64 k.m) ∧ X.cell? ⟨kb, 2, none⟩ = some (.int .i64 k.e) ∧
    a' = ⟨(((a.tmps.setIfInBounds 14 (.agg #[.int .i64 k.p, .int .i64 k.m, .int .i64 k.e])).setIfInBounds 15 (ptr g)).setIfInBounds 4 (.pointer (some ⟨kb, 0, none⟩))).setIfInBounds 5 (ptr g), []⟩
theorem FJ.stable (bs : List Nat) (bm : Nat) : Stable (FJ bs bm) := by
  rintro pre own X Y ⟨rfl, h1, h2, h3⟩ s1 s2 s3 s4 hk
  exact ⟨rfl, h1.of_heap (hk _ (.inl rfl)), (World.cell?_of_block (hk _ (.inr rfl))).trans h2, h3⟩
theorem FJ.lies (bs : List Nat) (bm : Nat) : Lies bm (FJ bs bm) := by
  rintro pre own X ⟨rfl, h1, h2, h3⟩ k hk
  rcases hk with rfl | rfl
  · exact ⟨h1.lt, Nat.le_refl _⟩
  · exact ⟨World.block_lt_of_cell? X _ h2, by omega⟩
theorem FJx.stable (bs : List Nat) (bm : Nat) (c : Code) : Stable (FJx bs bm c) := by
  rintro pre own X Y ⟨hc, rfl, h1, h2, h3⟩ s1 s2 s3 s4 hk
  exact ⟨hc, rfl, h1.of_heap (hk _ (.inl rfl)), (World.cell?_of_block (hk _ (.inr rfl))).trans h2, h3⟩
theorem FJx.lies (bs : List Nat) (bm : Nat) (c : Code) : Lies bm (FJx bs bm c) := by
  rintro pre own X ⟨hc, rfl, h1, h2, h3⟩ k hk
  rcases hk with rfl | rfl
  · exact ⟨h1.lt, Nat.le_refl _⟩
  · exact ⟨World.block_lt_of_cell? X _ h2, by omega⟩
theorem FM.stable (bs : List Nat) (bm : Nat) (a : Act) (pre0 : Pre) (k : Knot) (i : Nat) (a' : Act) : Stable (FM bs bm a pre0 k i a') := by
  rintro pre own X Y ⟨kb, g, rfl, h1, h2, h3, h4, h5, h6, h7, h8, h9⟩ s1 s2 s3 s4 hk
  have e := hk kb (.inr (.inr rfl))
  exact ⟨kb, g, rfl, h1, h2, h3.of_heap (hk _ (.inl rfl)), (World.cell?_of_block (hk _ (.inr (.inl rfl)))).trans h4, h5, (World.cell?_of_block e).trans h6, (World.cell?_of_block e).trans h7, (World.cell?_of_block e).trans h8, h9⟩
theorem FM.lies (bs : List Nat) (bm : Nat) (a : Act) (pre0 : Pre) (k : Knot) (i : Nat) (a' : Act) : Lies bm (FM bs bm a pre0 k i a') := by
  rintro pre own X ⟨kb, g, rfl, h1, h2, h3, h4, h5, h6, h7, h8, h9⟩ j hk
  rcases hk with rfl | rfl | rfl
  · exact ⟨h3.lt, Nat.le_refl _⟩
  · exact ⟨World.block_lt_of_cell? X _ h4, by omega⟩
  · exact ⟨World.block_lt_of_cell? X _ h6, by omega⟩

theorem run_neq89 (w : World) (k k' : Knot) : (binOp .neq 89 (kv k) (kv k')).run Tryd.prog w = .ok (.bool (!decide (k = k'))) w := by
  show (do pure (Value.bool (!(← Op.equal 89 (kv k) (kv k')))) : Sem Value).run Tryd.prog w = _
  rw [Sem.run_bind, eq89 w k k']
  rfl
theorem armIn_neq89 {F : Fence} {nF : Nat} {w : World} {ops : Array Oper} {rest : List Oper} {o : Oper} {a : Act} {Q : Exit → Act → World → Prop} (hg : o.guard = none) (x y : Operand) (hop : o.op = Op.binOp .neq 89 x y 89) (k k' : Knot) (hx : a.eval x = kv k) (hy : a.eval y = kv k')
    (hK : wpListIn F nF Tryd.prog ops Q rest (a.put o.dst (.bool (!decide (k = k')))) w) : wpListIn F nF Tryd.prog ops Q (o :: rest) a w := by
  refine wpListIn_plain hg fun K1 hK1 => ?_
  have h1 : (eqGuard .neq 89 x y (kv k) (kv k')).run Tryd.prog w = .ok () w := run_eqGuard_agg _ _ _ _ _ _ _ (by kernel_rfl)
  have h2 := run_neq89 w k k'
  unfold Oper.wpIn
  refine ⟨by simp [Oper.about, hop], ?_⟩
  rw [Oper.semAt_plain F _ _ (by rw [hop]; intro c hc'; cases hc')]
  simp only [execOp, hop, hx, hy]
  rw [Sem.run_bind, Sem.run_bind, h1]
  simp only [Result.andThen]
  rw [h2]
  exact hK1 _ _ hK

/-- Nothing more can go. -/
def Full (A : List Arc) : Prop := ∃ pre, Tree A pre ∧ (∀ k, reached pre k → DoneAt A pre (adj A k)) ∧ snk ∉ pre.map (·.1)

set_option maxRecDepth 100000 in
set_option maxHeartbeats 2000000 in
theorem fill_in (n base top b : Nat) (A : List Arc) (bs : List Nat) (f : Knot → Option Value) (w : World) (hnet : NetMem w base top b A bs f) (hG : Glob w) (h2b : 2 ≤ base) (htop : base ≤ top) (hA : A.length ≤ 1000000) (C : Int) (hC : C ≤ 1000000) (hC0 : 0 ≤ C) (hcap : Caps C A) (hzero : ∀ S : Knot → Bool, Flow.net S (pairs A) = 0) :
    CallsIn Fence.wide n Tryd.prog 41 #[.map (some b)] w fun e w' => ∃ m A', e = .returned (.int .i64 m) ∧ Fl A A' m ∧ Caps C A' ∧ NetMem w' base top b A' bs f ∧ Full A' ∧ Fr (fun k => k ∈ bs) w w' := by
  have hmm := @run_makeMap Tryd.prog
  have HN := Lib.hid hnet
  have HGl := Lib.hid hG
  have HC := Lib.hid hcap
  clear hnet hG hcap
  have hz0 : 0 < w.heap.size := by have := HN.out.rm.size; omega
  refine callsIn_of_wp_marks Tryd.func41 rfl trivial ?_ rfl
  simp only [Tryd.ntmps41, List.size_toArray, List.length_cons, List.length_nil, Nat.reduceAdd, Nat.reduceSub, Array.replicate_succ, Array.replicate_zero, List.push_toArray, List.append_toArray, List.nil_append, List.cons_append]
  gi_wp2
  refine wpIn_loop_ghost_k (fun (k' : Nat) (a' : Act) (w' : World) => ∃ (dl : List Deferred) (u2 u3 u4 u5 u6 u7 u8 u10 u11 u12 u13 u16 u17 u18 u19 u20 u21 u22 u23 u24 u25 u26 u27 u28 u29 u30 u31 u32 u33 u34 u35 u36 u37 u38 u39 u40 u41 u42 u43 u44 u45 u46 u47 u48 u49 u50 u51 u52 u53 u54 u55 u56 u57 u58 u59 u60 u61 u62 u63 u64 u65 u66 u67 u68 u69 u70 u71 u72 u73 u74 u75 u76 u77 u78 u79 u80 u81 u82 u83 : Value), (∃ (m : Int) (A1 : List Arc), u2 = .int .i64 m ∧ (k' : Int) + m = 1000000000000 ∧ 0 ≤ m ∧ Fl A A1 m ∧ Caps C A1 ∧ NetMem w' base top b A1 bs f ∧ Fr (fun k => k ∈ bs) w w' ∧ Marks w.heap.size dl w') ∧ a' = { tmps := #[.map (some b), undef, u2, u3, u4, u5, u6, u7, u8, undef, u10, u11, u12, u13, undef, undef, u16, u17, u18, u19, u20, u21, u22, u23, u24, u25, u26, u27, u28, u29, u30, u31, u32, u33, u34, u35, u36, u37, u38, u39, u40, u41, u42, u43, u44, u45, u46, u47, u48, u49, u50, u51, u52, u53, u54, u55, u56, u57, u58, u59, u60, u61, u62, u63, u64, u65, u66, u67, u68, u69, u70, u71, u72, u73, u74, u75, u76, u77, u78, u79, u80, u81, u82, u83], defers := dl }) 1000000000000 ?atStart ?round
  case atStart =>
    (repeat apply Exists.intro)
    refine ⟨?_, rfl⟩
    exact ⟨0, A, rfl, by omega, by omega, Fl.refl A, HC.out, HN.out, Fr.refl _ _, by simp [Marks]⟩
  case round =>
    intro gk _ wr hinv
    obtain ⟨dl, u2, u3, u4, u5, u6, u7, u8, u10, u11, u12, u13, u16, u17, u18, u19, u20, u21, u22, u23, u24, u25, u26, u27, u28, u29, u30, u31, u32, u33, u34, u35, u36, u37, u38, u39, u40, u41, u42, u43, u44, u45, u46, u47, u48, u49, u50, u51, u52, u53, u54, u55, u56, u57, u58, u59, u60, u61, u62, u63, u64, u65, u66, u67, u68, u69, u70, u71, u72, u73, u74, u75, u76, u77, u78, u79, u80, u81, u82, u83, hrel, ha⟩ := hinv
    subst ha
    try dsimp only
    intro _ _ _ _
    obtain ⟨m, A1, rfl, hgk, hm0, hfl, hcp, hnm, hfr, hmk⟩ := hrel
    have HF := Lib.hid hfl
    have HCP := Lib.hid hcp
    have HNM := Lib.hid hnm
    have HFR := Lib.hid hfr
    have HMK := Lib.hid hmk
    clear hfl hcp hnm hfr hmk
    gi_wp2_with (first | (refine ⟨trivial, by simp [Fence.wide], (reachOf_in _ b _).mono ?_⟩; rintro e X ⟨rfl, rfl⟩))
    have hbt : top ≤ wr.heap.size := HNM.out.rm.size
    have hend := HF.out.ends
    have hA1 : A1.length ≤ 1000000 := by
      have := congrArg List.length hend
      simp [ends] at this
      omega
    have hFW : Fr (fun _ => False) wr (((wr.alloc (Obj.map #[] 0)).alloc (Obj.cells #[Value.map (some wr.heap.size)] 98)).alloc (Obj.cells #[Value.map (some b)] 77)) := (((Fr.refl _ wr).alloc _).alloc _).alloc _
    have HGX : Hid (∀ X, Below wr.heap.size (((wr.alloc (Obj.map #[] 0)).alloc (Obj.cells #[Value.map (some wr.heap.size)] 98)).alloc (Obj.cells #[Value.map (some b)] 77)) X → Glob X) := fun X hbX =>
      ((HGl.out.below (HFR.out.below (B := 2) (by have := HN.out.rm.lo; have := HN.out.rm.hi; have := HN.out.rm.size; omega) (fun k hk hm => by have := HN.out.rng k hm; omega)) (by omega)).below (hFW.below (B := 2) (by have := HNM.out.rm.lo; have := HNM.out.rm.hi; omega) (fun _ _ h => h)) (by omega)).below hbX (by have := HNM.out.rm.lo; have := HNM.out.rm.hi; omega)
    refine range_reach (Bn := wr.heap.size + 2) (base := base) (top := wr.heap.size) (b := b) (A := A1) (bs := bs) (f := f) rfl rfl ((HNM.out.fr hFW (fun _ _ _ h => h)).up hbt (by simp; omega)) ((HGl.out.below (HFR.out.below (B := 2) (by have := HN.out.rm.lo; have := HN.out.rm.hi; have := HN.out.rm.size; omega) (fun k hk hm => by have := HN.out.rng k hm; omega)) (by omega)).below (hFW.below (B := 2) (by have := HNM.out.rm.lo; have := HNM.out.rm.hi; omega) (fun _ _ h => h)) (by omega)) h2b (by omega) hA1
      ?_ (by omega) (FJ bs wr.heap.size) (FJx bs wr.heap.size) (FM bs wr.heap.size) (fun j => j = wr.heap.size ∨ j = wr.heap.size + 1) ?_ (by omega) (FJ.lies _ _) (FJ.stable _ _) (FJx.lies _ _) (FJx.stable _ _) (FM.lies _ _ _) (FM.stable _ _ _) ?assign ?body ?done ?stop
    · exact cell_new' _ _ _ (by simp) rfl
    · exact ⟨rfl, ((MapFn.new wr).alloc _).alloc _, cell_alloc' _ (cell_new' _ _ _ (by simp) rfl), by simp⟩
    case assign =>
      intro l pre own k i a0 g X hJ hbX ha hd hg ht
      gi_wp2
      obtain ⟨rfl, h1, h2, h3⟩ := hJ
      have hlt := h1.lt
      have hlt2 := World.block_lt_of_cell? X _ h2
      refine ⟨fun j => j = wr.heap.size ∨ j = wr.heap.size + 1 ∨ j = X.heap.size, ?_, (Fr.refl _ X).alloc _, X.heap.size, g, rfl, hlt2, hg, h1.alloc _, cell_alloc' _ h2, h3, ?_, ?_, ?_, rfl⟩
      · rintro j (h | h | h)
        · exact .inl (.inl h)
        · exact .inl (.inr h)
        · exact .inr (by omega)
      · exact cell_new' _ _ _ rfl rfl
      · exact cell_new' _ _ _ rfl rfl
      · exact cell_new' _ _ _ rfl rfl
    case body =>
      rintro l pre own k i a0 g a' X ⟨kb, g', rfl, hkb, hg', hM, hv, hn, c0, c1, c2, rfl⟩ hbX ha hd hg ht
      obtain rfl : g' = g := Option.some.inj (hg'.symm.trans hg)
      simp only [List.setIfInBounds_toArray, List.set_cons_zero, List.set_cons_succ]
      have hGX := HGX.out X hbX
      have g0 := hGX.t0
      have g1 := hGX.t1
      have g2 := hGX.t2
      clear hGX
      have hk0 : k ∉ pre.map (·.1) := by
        have h1 := (List.nodup_cons.1 ht.nodup).2
        rw [List.map_append, List.nodup_append] at h1
        exact fun hm => h1.2.2 k hm k (by simp) rfl
      have HM := Lib.hid hM
      clear hM
      gi_wp2_with (first | (gi_at_mapUpdate; refine armIn_update rfl _ _ _ (.inl rfl) key89 Tryd.underlying98 rfl HM.out k rfl (ptr g') rfl ?_; intro X1 hm1 hgr1 hs1; have d0 := hgr1.cell c0 (by simp <;> omega); have d1 := hgr1.cell c1 (by simp <;> omega); have d2 := hgr1.cell c2 (by simp <;> omega); have e0 := hgr1.cell g0 (by simp <;> omega); have e1 := hgr1.cell g1 (by simp <;> omega); have e2 := hgr1.cell g2 (by simp <;> omega); have e3 := hgr1.cell hv (by simp <;> omega); have HM1 := Lib.hid hm1; have HG1 := Lib.hid hgr1; have HS1 := Lib.hid hs1; clear hm1 hgr1 hs1))
      all_goals
        have hsub : ∀ j, (j = wr.heap.size ∨ j = wr.heap.size + 1) → (j = wr.heap.size ∨ j = wr.heap.size + 1 ∨ j = kb) ∨ X.heap.size ≤ j := fun j h => .inl (h.elim .inl (fun h => .inr (.inl h)))
        have hfrX : Fr (fun j => j = wr.heap.size ∨ j = wr.heap.size + 1 ∨ j = kb) X X1 := (Fr.refl _ X).grown HG1.out (fun j e => .inl (.inl (by injection e with e; exact e.symm)))
        have hby : MapFn kv X1 wr.heap.size (byF bs (pre ++ [(k, i)])) := by rw [← byF_snoc bs pre k i g' hk0 hg]; exact HM1.out
        first
        | (refine ⟨_, hsub, hfrX, rfl, hby, e3, ?_⟩
           intro hm
           simp only [List.map_append, List.map_cons, List.map_nil, List.mem_append, List.mem_singleton] at hm
           refine hm.elim hn (fun e => ?_)
           have q1 := congrArg Knot.p e
           have q2 := congrArg Knot.m e
           have q3 := congrArg Knot.e e
           simp only [snk] at q1 q2 q3
           first | (exact absurd q1.symm ‹_›) | (exact absurd q2.symm ‹_›) | (exact absurd q3.symm ‹_›))
        | (refine ⟨_, hsub, hfrX, rfl, rfl, hby, e3, ?_⟩
           have hk : k = snk := by cases k; simp only [snk, Knot.mk.injEq]; refine ⟨?_, ?_, ?_⟩ <;> assumption
           simp [hk])
    case done =>
      rintro D pre own X hD hDX ht hdo ⟨rfl, hM, hv, hs⟩ hoD hbX
      have hGX := HGX.out X hbX
      have g0 := hGX.t0
      have g1 := hGX.t1
      have g2 := hGX.t2
      clear hGX
      have HM := Lib.hid hM
      have HBN : Hid ((byF bs pre snk).getD (.pointer none) = .pointer none) := by simp only [Hid]; rw [byF_none bs pre snk hs]; rfl
      have hws := HFR.out.size
      have hsW := hFW.size
      simp only [World.size_alloc] at hD
      gi_wp2_with (first | ((try gi_at_lookup); refine armIn_lookup rfl _ _ _ rfl key89 Tryd.underlying98 (zero99 _) rfl HM.out snk rfl ?_; simp only [if_neg Bool.false_ne_true]; rw [HBN.out]))
      have hfr2 : Fr (fun k => k ∈ bs) w X := (HFR.out.then hFW (fun _ _ h => h.elim)).then (Fr.of_below hbX) (fun i _ h => .inr (by omega))
      refine leaves_marks (B := w.heap.size) _ X ?_ ?_
      · refine Marks.cons (HMK.out.fr ((hFW.then (Fr.of_below hbX) (fun i _ h => .inr h))) (fun D' hB' hD' h => h)) (by omega) hDX ?_
        intro d hd e
        subst e
        have := HMK.out.lt hd
        omega
      · intro W' hW'
        refine ⟨_, results_tmp rfl _ _ _, ?_⟩
        have hbw : top ≤ w.heap.size := HN.out.rm.size
        have hfr3 : Fr (fun k => k ∈ bs) w W' := hfr2.then hW' (fun i _ h => .inr h.1)
        refine ⟨m, rfl, A1, HF.out, HCP.out, ?_, ⟨pre, ht, hdo, hs⟩, hfr3⟩
        refine ((HNM.out.fr (hFW.then (Fr.of_below hbX) (fun i _ h => .inr h)) (fun k _ _ h => h)).fr hW' (fun k h1 h2 h3 => by omega))
    case stop =>
      rintro D c pre own X hD hDX ht ⟨rfl, rfl, hM, hv, hs⟩ hoD hbX
      have hGX := HGX.out X hbX
      have g0 := hGX.t0
      have g1 := hGX.t1
      have g2 := hGX.t2
      have g3 := hGX.s0
      have g4 := hGX.s1
      have g5 := hGX.s2
      clear hGX
      have HM := Lib.hid hM
      have HT := Lib.hid ht
      have hws := HFR.out.size
      have hsW := hFW.size
      simp only [World.size_alloc] at hD
      obtain ⟨j0, hj0, hG0⟩ := Gone.start (A := A1) hs
      obtain ⟨i0, gi0, hp0, hgi0⟩ : ∃ i0 gi0, byF bs pre snk = some (ptr gi0) ∧ bs[i0]? = some gi0 := by
        rcases hG0.at_ with ⟨h, _⟩ | ⟨i, j', rfl, hi⟩
        · exact absurd h (by decide)
        · obtain ⟨a, ha, _⟩ := ht.at _ _ _ hi
          have hil : i < bs.length := by rw [HNM.out.len]; exact (List.getElem?_eq_some_iff.1 ha).1
          exact ⟨i, bs[i], byF_at ht bs hi (List.getElem?_eq_getElem hil), List.getElem?_eq_getElem hil⟩
      have HBN : Hid ((byF bs pre snk).getD (.pointer none) = .pointer (some ⟨gi0, 0, none⟩)) := by simp only [Hid]; rw [hp0]; rfl
      have hGN := Lib.hid hG0
      clear hM ht hs hp0 hgi0 hG0
      gi_wp2_with (first | ((try gi_at_lookup); refine armIn_lookup rfl _ _ _ rfl key89 Tryd.underlying98 (zero99 _) rfl HM.out snk rfl ?_; simp only [if_neg Bool.false_ne_true]; rw [HBN.out]))
      obtain ⟨wo, rfl⟩ : ∃ wo : World, wo = wr := ⟨_, rfl⟩
      have hbX0 : Hid (NetMem X base top b A1 bs f) := HNM.out.fr (hFW.then (Fr.of_below hbX) (fun i _ h => .inr h)) (fun k _ _ h => h)
      have hszX : wo.heap.size + 3 ≤ X.heap.size := by have := hbX.size; simp at this; omega
      obtain ⟨Bx, hBx⟩ : ∃ Bx, X.heap.size = Bx := ⟨_, rfl⟩
      rw [hBx]
      have HBX := Lib.hid hBx
      have hX8 : 1 < X.heap.size := by omega
      gi_loopg [6, 7, 8] j0 (fun gj v6 v7 v8 Y => ∃ (k : Knot) (l : List Nat) (more : Int) (kb : Nat), v7 = .int .i64 more ∧ v8 = .pointer (some ⟨kb, 0, none⟩) ∧ Bx ≤ kb ∧ kb < Y.heap.size ∧ Y.heap[kb]? = some (.cells #[.int .i64 k.p, .int .i64 k.m, .int .i64 k.e] 89 (0, 0)) ∧
        Gone A1 pre k gj l more ∧ Y.ownsRow Bx 99 1 v6 l.length (l.map fun i => ptr (bs.getD i 0)) ∧ Fr (fun _ => False) X Y)
      case atStart =>
        refine ⟨snk, [], _, Bx, rfl, rfl, Nat.le_refl _, by rw [← hBx]; simp, ?_, hGN.out, World.ownsRow_nil _ _ _ _, (Fr.refl _ X).alloc _⟩
        exact heap_new' X _ Bx hBx.symm
      case round =>
        obtain ⟨k, l, more, kb, rfl, rfl, hkb, hkbl, hkc, hgo, hrow, hfy⟩ := hrel
        have hGO := Lib.hid hgo
        have HROW := Lib.hid hrow
        have HFY := Lib.hid hfy
        have hYs : X.heap.size ≤ wr.heap.size := hfy.size
        have hYg : ∀ (bl : Nat), bl < Bx → wr.heap[bl]? = X.heap[bl]? := fun bl h => hfy.block bl (by omega) (fun h => h)
        have HYG := Lib.hid hYg
        have p0 : wr.cell? ⟨kb, 0, none⟩ = some (.int .i64 k.p) := by simp [World.cell?, hkc]
        have p1 : wr.cell? ⟨kb, 1, none⟩ = some (.int .i64 k.m) := by simp [World.cell?, hkc]
        have p2 : wr.cell? ⟨kb, 2, none⟩ = some (.int .i64 k.e) := by simp [World.cell?, hkc]
        have s0 : wr.cell? ⟨0, 0, none⟩ = some (.int .i64 0) := (World.cell?_of_block (hYg 0 (by omega))).trans g3
        have s1 : wr.cell? ⟨0, 1, none⟩ = some (.int .i64 0) := (World.cell?_of_block (hYg 0 (by omega))).trans g4
        have s2 : wr.cell? ⟨0, 2, none⟩ = some (.int .i64 1) := (World.cell?_of_block (hYg 0 (by omega))).trans g5
        have hvY : wr.cell? ⟨wo.heap.size + 1, 0, none⟩ = some (.map (some wo.heap.size)) := (World.cell?_of_block (hYg _ (by simp; omega))).trans hv
        clear hgo hrow hfy hYg
        obtain ⟨Aw, cw, hw6⟩ := own_slice HROW.out
        subst hw6
        rcases hGO.out.at_ with ⟨hk, _⟩ | ⟨i, j', hj, hpi⟩
        · have HKE : Hid (decide (k = src0) = true) := by simp [Hid, hk]
          have hm1 := hGO.out.m1
          have hm2 := hGO.out.m2
          have hbX1 : Hid (NetMem wr base top b A1 bs f) := hbX0.out.fr HFY.out (fun _ _ _ h => h)
          have hlen : l.length ≤ A1.length := nodup_lt _ _ hGO.out.nd (fun x hx => by
            obtain ⟨_, _, _, hx'⟩ := hGO.out.far x hx
            obtain ⟨_, hx'', _⟩ := HT.out.at _ _ _ hx'
            exact (List.getElem?_eq_some_iff.1 hx'').1)
          have hway : Way A1 src0 snk l := by rw [← hk]; exact hGO.out.way
          have HW := Lib.hid hway
          have hFl := HF.out.way (d := more) hbX0.out.backs hway
          have HFL := Lib.hid hFl
          clear hway hFl hk
          gi_wp2_with (first | (refine armIn_neq89 rfl _ _ rfl k src0 rfl rfl ?_; rw [HKE.out]))
          obtain ⟨wi, rfl⟩ : ∃ wi : World, wi = wr := ⟨_, rfl⟩
          gi_loopg [57] l.length (fun gj v57 Y => ∃ (jj : Nat) (A2 : List Arc), gj + jj = l.length ∧ v57 = .int .i64 (jj : Int) ∧ A2 = (l.take jj).foldl (fun B i => push B more i) A1 ∧ NetMem Y base top b A2 bs f ∧ Caps C A2 ∧ (∀ i ∈ l.drop jj, ∀ a, A2[i]? = some a → more ≤ a.left) ∧ Fr (fun k => k ∈ bs) wi Y)
          case atStart => exact ⟨0, A1, rfl, rfl, rfl, hbX1.out, HCP.out, by simpa using hGO.out.left, Fr.refl _ _⟩
          case round =>
            obtain ⟨jj, A2, hgj, rfl, hA2, hnY, hcY, hlY, hfY⟩ := hrel
            have HA2 := Lib.hid hA2
            have HNY := Lib.hid hnY
            have HCY := Lib.hid hcY
            have HLY := Lib.hid hlY
            have HFYY := Lib.hid hfY
            have hA2l : A2.length = A1.length := by
              have h := congrArg List.length (ends_pushes more (l.take jj) A1)
              rw [← hA2] at h
              simpa [ends] using h
            by_cases hjj : jj < l.length
            · obtain ⟨i, hi⟩ : ∃ i, l[jj]? = some i := ⟨_, List.getElem?_eq_getElem hjj⟩
              have hidr : l.drop jj = i :: l.drop (jj + 1) := by
                rw [List.drop_eq_getElem_cons hjj]
                rw [List.getElem?_eq_getElem hjj] at hi
                injection hi with hi
                rw [hi]
              have hi0 : i < A1.length := by
                obtain ⟨_, _, _, hx'⟩ := hGO.out.far i (List.mem_of_getElem? hi)
                obtain ⟨_, hx'', _⟩ := HT.out.at _ _ _ hx'
                exact (List.getElem?_eq_some_iff.1 hx'').1
              obtain ⟨a, ha⟩ : ∃ a, A2[i]? = some a := ⟨_, List.getElem?_eq_getElem (by omega)⟩
              have hfl : flip i < A2.length := flip_lt (by omega) hnY.even
              obtain ⟨a', ha'⟩ : ∃ a', A2[flip i]? = some a' := ⟨_, List.getElem?_eq_getElem hfl⟩
              obtain ⟨g, hg⟩ : ∃ g, bs[i]? = some g := ⟨_, List.getElem?_eq_getElem (by rw [hnY.len]; omega)⟩
              obtain ⟨g', hg'⟩ : ∃ g', bs[flip i]? = some g' := ⟨_, List.getElem?_eq_getElem (by rw [hnY.len]; exact hfl)⟩
              have harc := hnY.arcs i a g g' ha hg hg'
              have harc' := hnY.arcs (flip i) a' g' g ha' hg' (by rw [flip_flip]; exact hg)
              have hca := hcY.get hnY.backs i a ha
              have hca' := hcY.get hnY.backs (flip i) a' ha'
              have hma := hlY i (by rw [hidr]; simp) a ha
              have hgg : g ≠ g' := by
                intro e
                subst e
                exact flip_ne i ((List.getElem?_inj (by rw [hnY.len]; omega) hnY.nd).1 (hg.trans hg'.symm)).symm
              have b3 : wr.cell? ⟨g, 3, none⟩ = some (.int .i64 a.left) := by simp [World.cell?, harc, arcObj]
              have b4 : wr.cell? ⟨g, 4, none⟩ = some (.pointer (some ⟨g', 0, none⟩)) := by simp [World.cell?, harc, arcObj, ptr]
              have b5 : wr.cell? ⟨g', 3, none⟩ = some (.int .i64 a'.left) := by simp [World.cell?, harc', arcObj]
              have z3 : wr.frozen? ⟨g, 3, none⟩ = false := by simp [World.frozen?, harc, arcObj]
              have z5 : wr.frozen? ⟨g', 3, none⟩ = false := by simp [World.frozen?, harc', arcObj]
              obtain ⟨gr, hAr, hcr⟩ : ∃ gr, Aw = some ⟨gr, 0, none⟩ ∧ wr.cell? ⟨gr, jj, none⟩ = some (.pointer (some ⟨g, 0, none⟩)) := by
                have hrow := own_fr HROW.out hfY (fun bl hbl hm => by
                  have h1 := own_base HROW.out bl hbl
                  have h2 := hbX0.out.rng bl hm
                  have h3 := hbX0.out.rm.size
                  omega)
                obtain ⟨g1, cap1, he, _, _⟩ := hrow.form (by omega)
                injection he with hA _ _
                subst hA
                have := hrow.cells (g := g1) rfl jj (ptr g) (by simp [List.getElem?_map, hi, List.getD_eq_getElem?_getD, hg])
                rw [add_plain] at this
                exact ⟨g1, rfl, this⟩
              subst hAr
              have HAA := Lib.hid ha
              have HAA' := Lib.hid ha'
              have HGG := Lib.hid hg
              have HGG' := Lib.hid hg'
              have HII := Lib.hid hi
              have HDR := Lib.hid hidr
              have HGJ := Lib.hid hgj
              clear ha ha' hg hg' hi hidr harc harc' hA2 hnY hcY hlY hfY hgj hfl
              gi_wp2
              gi_roundg (l.length - (jj + 1))
              case measure => have := HGJ.out; omega
              case rel =>
                obtain ⟨hn2, hf2⟩ := HNY.out.push HAA.out HAA'.out HGG.out HGG'.out more rfl
                refine ⟨jj + 1, push A2 more i, by omega, by go_num, ?_, hn2, HCY.out.push more (by omega) i a HNY.out.backs HAA.out (by omega), ?_, HFYY.out.trans hf2⟩
                · rw [List.take_add_one, HII.out, List.foldl_append, ← HA2.out]
                  rfl
                · intro x hx y hy
                  have hnd : i ∉ l.drop (jj + 1) := by
                    have h1 := hGO.out.nd.sublist (List.drop_sublist jj l)
                    rw [HDR.out] at h1
                    exact (List.nodup_cons.1 h1).1
                  have hne : i ≠ x := fun e => hnd (e ▸ hx)
                  have hxl : x < A2.length := by
                    have := (List.getElem?_eq_some_iff.1 hy).1
                    rwa [push_length] at this
                  obtain ⟨y', hy', _, _, hle⟩ := push_other A2 more (by omega) i x _ hne (List.getElem?_eq_getElem hxl)
                  rw [hy'] at hy
                  injection hy with hy
                  subst hy
                  have := HLY.out x (by rw [HDR.out]; exact List.mem_cons_of_mem _ hx) _ (List.getElem?_eq_getElem hxl)
                  omega
            · have hjn : decide ((jj : Int) < (l.length : Int)) = false := by simp; omega
              have hA3 : A2 = l.foldl (fun B i => push B more i) A1 := by rw [HA2.out, List.take_of_length_le (by omega)]
              have hb2 : m + more ≤ C * (A2.length : Int) := (hA3 ▸ HFL.out : Fl A A2 (m + more)).bound hzero hC0 hcY
              have hb3 : m + more ≤ 1000000000000 := by
                rw [hA2l] at hb2
                have h1 : C * (A1.length : Int) ≤ 1000000 * (A1.length : Int) := Int.mul_le_mul_of_nonneg_right hC (by omega)
                omega
              have HA3 := Lib.hid hA3
              clear hA2 hnY hcY hlY hfY hA3 hb2
              gi_wp2
              gi_roundg (1000000000000 - m - more).toNat
              case measure => omega
              case rel =>
                have hbw : top ≤ w.heap.size := HN.out.rm.size
                have hws2 := HFY.out.size
                have f1 := (hFW.then (Fr.of_below hbX) (fun i _ h => .inr h)).then HFY.out (fun _ _ h => h.elim)
                have f2 : Fr (fun k => k ∈ bs) wo wr := (f1.mono (fun _ _ h => h.elim)).then HFYY.out (fun i _ h => .inl h)
                refine ⟨m + more, A2, rfl, by omega, by omega, HA3.out ▸ HFL.out, HCY.out, HNY.out, HFR.out.trans f2, ?_⟩
                refine Marks.cons (HMK.out.fr f2 (fun D' hB' hD' h => ?_)) (by omega) (HFYY.out.heap (HFY.out.heap hDX (fun h => h)) (fun h => ?_)) ?_
                · have := HNM.out.rng D' h; omega
                · have := HNM.out.rng D h; omega
                · intro d hd e
                  subst e
                  have := HMK.out.lt hd
                  omega
        · have hks : k ≠ src0 := HT.out.ne_src hpi
          have HKE : Hid (decide (k = src0) = false) := by simp [Hid, hks]
          obtain ⟨a, ha, hd, hl, _⟩ := HT.out.at _ _ _ hpi
          have hil : i < A1.length := (List.getElem?_eq_some_iff.1 ha).1
          obtain ⟨g, hg⟩ : ∃ g, bs[i]? = some g := ⟨_, List.getElem?_eq_getElem (by rw [hbX0.out.len]; exact hil)⟩
          obtain ⟨g', hg'⟩ : ∃ g', bs[flip i]? = some g' := ⟨_, List.getElem?_eq_getElem (by rw [hbX0.out.len]; exact flip_lt hil hbX0.out.even)⟩
          obtain ⟨a', ha'⟩ : ∃ a', A1[flip i]? = some a' := ⟨_, List.getElem?_eq_getElem (flip_lt hil hbX0.out.even)⟩
          have hpr := hbX0.out.pair i a a' ha ha'
          have HBY : Hid ((byF bs pre k).getD (.pointer none) = .pointer (some ⟨g, 0, none⟩)) := by simp only [Hid]; rw [byF_at HT.out bs hpi hg]; rfl
          have harc := hbX0.out.arcs i a g g' ha hg hg'
          have harc' := hbX0.out.arcs (flip i) a' g' g ha' hg' (by rw [flip_flip]; exact hg)
          have hgt : g < Bx := by rw [← hBx]; exact (Array.getElem?_eq_some_iff.1 harc).1
          have hgt' : g' < Bx := by rw [← hBx]; exact (Array.getElem?_eq_some_iff.1 harc').1
          have HARC : Hid (∀ (W : World), (∀ bl, bl < Bx → W.heap[bl]? = X.heap[bl]?) → W.cell? ⟨g, 3, none⟩ = some (.int .i64 a.left) ∧ W.cell? ⟨g, 4, none⟩ = some (.pointer (some ⟨g', 0, none⟩)) ∧ W.cell? ⟨g', 0, none⟩ = some (.int .i64 a.src.p) ∧ W.cell? ⟨g', 1, none⟩ = some (.int .i64 a.src.m) ∧ W.cell? ⟨g', 2, none⟩ = some (.int .i64 a.src.e)) := by
            intro W hW
            have h1 := (hW g hgt).trans harc
            have h2 := (hW g' hgt').trans harc'
            rw [hpr.2.symm]
            refine ⟨?_, ?_, ?_, ?_, ?_⟩ <;> simp [World.cell?, h1, h2, arcObj, ptr]
          have HPI := Lib.hid hpi
          have HA' := Lib.hid ha
          have HJJ := Lib.hid hj
          have HMY : Hid (MapFn kv wr wo.heap.size (byF bs pre)) := HM.out.of_heap (HYG.out _ (by omega))
          have hlen : l.length ≤ A1.length := nodup_lt _ _ hGO.out.nd (fun x hx => by
            obtain ⟨_, _, _, hx'⟩ := hGO.out.far x hx
            obtain ⟨_, hx'', _⟩ := HT.out.at _ _ _ hx'
            exact (List.getElem?_eq_some_iff.1 hx'').1)
          obtain ⟨i9, hi9, hz9, hzs9, hzb9⟩ := info_parts info99
          have HI9 : Hid (Tryd.prog.info? 99 = some i9 ∧ i9.zero = some (.pointer none) ∧ i9.size = 1 ∧ i9.bytes = 8) := ⟨hi9, hz9, hzs9, hzb9⟩
          have hm1 := hGO.out.m1
          have hm2 := hGO.out.m2
          have hal := hGO.out.left
          have hca := HCP.out.get hbX0.out.backs i a ha
          obtain ⟨j2, hj2, hgn⟩ := hGO.out.next HT.out hj hpi ha hca.1
          have HGN := Lib.hid hgn
          have HGG := Lib.hid hg
          clear hgn
          clear ha ha' hg hg' hpr harc harc' hpi hks hd hil hi9 hz9 hzs9 hzb9
          gi_wp2_with (first
            | (refine armIn_neq89 rfl _ _ rfl k src0 rfl rfl ?_; rw [HKE.out])
            | ((try gi_at_lookup); refine armIn_lookup rfl _ _ _ rfl key89 Tryd.underlying98 (zero99 _) rfl HMY.out k rfl ?_; simp only [if_neg Bool.false_ne_true]; rw [HBY.out])
            | (gi_at_builtin; refine wpListIn_append_own _ rfl _ _ 100 rfl Bx 99 i9 (.pointer none) 1 8 Tryd.underlying100 HI9.out.1 HI9.out.2.1 HI9.out.2.2.1 HI9.out.2.2.2 rfl (by decide) _ l.length _ rfl (HROW.out.alloc _) ⟨wr.heap.size, 0, none⟩ 1 1 [.pointer (some ⟨g, 0, none⟩)] rfl rfl (cell_one_new _ _ _) (by simp [Value.oneCell']) (by simp only [maxLen]; omega) (by omega) (by simp; omega) ?_; intro v1 W1 hown1 hgrow1 _; obtain ⟨gw, capw, rfl⟩ := ownsRow_succ hown1; have hW1 : ∀ bl, bl < Bx → W1.heap[bl]? = X.heap[bl]? := (fun bl hbl => (hgrow1.block bl (by simp; omega) (fun e => by have := own_base HROW.out bl e.symm; omega)).trans ((Below.heap_alloc _ _ _ (by omega)).trans (HYG.out bl hbl))); have hkW : W1.heap[kb]? = wr.heap[kb]? := (hgrow1.block kb (by simp; omega) (fun e => own_ne_cells HROW.out hkc (by decide) e.symm)).trans (Below.heap_alloc _ _ _ (by omega)); have hsz1 := hgrow1.size; simp only [World.size_alloc] at hsz1; have q0 := (World.cell?_of_block (a := ⟨kb, 0, none⟩) hkW).trans p0; have q1 := (World.cell?_of_block (a := ⟨kb, 1, none⟩) hkW).trans p1; have q2 := (World.cell?_of_block (a := ⟨kb, 2, none⟩) hkW).trans p2; have hvW := (World.cell?_of_block (a := ⟨wo.heap.size + 1, 0, none⟩) (hW1 _ (by simp; omega))).trans hv; have hHW := HARC.out W1 hW1; have a0 := hHW.1; have a1 := hHW.2.1; have a2 := hHW.2.2.1; have a3 := hHW.2.2.2.1; have a4 := hHW.2.2.2.2; clear hHW; have HM1 := Lib.hid (HM.out.of_heap (hW1 _ (by omega))); have HW1 := Lib.hid hW1; have HOWN1 := Lib.hid hown1; have HGROW1 := Lib.hid hgrow1; clear hW1 hown1 hgrow1 hkW; have hgl1 : g < W1.heap.size := (by omega); have hgl2 : g' < W1.heap.size := (by omega); have hkl1 : kb < W1.heap.size := (by omega); have hvl1 : wo.heap.size + 1 < W1.heap.size := (by omega))
            | ((try gi_at_lookup); refine armIn_lookup rfl _ _ _ rfl key89 Tryd.underlying98 (zero99 _) rfl HM1.out k rfl ?_; simp only [if_neg Bool.false_ne_true]; rw [HBY.out])
            | ((try gi_at_lookup); refine armIn_lookup rfl _ _ _ rfl key89 Tryd.underlying98 (zero99 _) rfl (HM1.out.alloc _) k rfl ?_; simp only [if_neg Bool.false_ne_true]; rw [HBY.out]))
          all_goals
            gi_roundg j2
            case measure => omega
            case rel =>
              have hgrow := HGROW1.out
              have hfr1 : Fr (fun _ => False) X W1 := by
                refine ((HFY.out.alloc _).grown hgrow (fun bl e => .inr ?_))
                have := own_base HROW.out bl e
                omega
              refine ⟨a.src, l ++ [i], _, W1.heap.size, rfl, rfl, by omega, by simp, heap_new' W1 _ _ rfl, ?_, ?_, hfr1.alloc _⟩
              · first
                | (rw [show more = min more a.left by omega]; exact HGN.out)
                | (have h := HGN.out; rw [show min more a.left = a.left by omega] at h; exact h)
              · have h := HOWN1.out.alloc (Obj.cells #[Value.int IntKind.i64 a.src.p, Value.int IntKind.i64 a.src.m, Value.int IntKind.i64 a.src.e] 89)
                have e1 : List.map (fun i => ptr (bs.getD i 0)) (l ++ [i]) = List.map (fun i => ptr (bs.getD i 0)) l ++ [.pointer (some ⟨g, 0, none⟩)] := by
                  rw [List.map_append]
                  simp [List.getD_eq_getElem?_getD, HGG.out, ptr]
                rw [e1, List.length_append]
                exact h
end Go.Proofs.YtnhcpflenajeaaaDoor

/- The checks of the program: within, isRoom, isMinute, isVisit, errorOf. -/
set_option linter.unusedVariables false
set_option linter.unusedSimpArgs false
namespace Go.Proofs.YtnhcpflenajeaaaDoor
open Go.RowKit Go.Proofs.YtnhcpflenajeaaaDoorW.PrintWords Go.Proofs.YtnhcpflenajeaaaDoorW.PrintMore PCrowdMost Mem

def wit (n lo hi : Int) : Bool := decide (lo ≤ n ∧ n ≤ hi)
theorem within_any (n lo hi : Int) (w : World) : Calls Tryd.prog 35 #[.int .i64 n, .int .i64 lo, .int .i64 hi] w fun e w' => e = .returned (.bool (wit n lo hi)) ∧ w' = w := by
  go_enter Tryd.func35, Tryd.ntmps35
  by_cases h1 : lo ≤ n <;> by_cases h2 : n ≤ hi <;> go_wp2 <;> refine bodyPost_ret (results_tmp rfl _ _ _) rfl ?_ <;> refine ⟨?_, rfl⟩ <;> simp [wit, h1, h2] <;> omega
theorem isRoom_any (n : Int) (w : World) : Calls Tryd.prog 61 #[.int .i64 n] w fun e w' => e = .returned (.bool (wit n 0 1000)) ∧ w' = w := by
  go_enter Tryd.func61, Tryd.ntmps61
  go_wp2_with (go_at_call 35; refine (within_any _ _ _ _).mono ?_; rintro e w' ⟨rfl, rfl⟩)
  refine bodyPost_ret (results_tmp rfl _ _ _) rfl ?_
  exact ⟨rfl, rfl⟩
theorem isMinute_any (n : Int) (w : World) : Calls Tryd.prog 36 #[.int .i64 n] w fun e w' => e = .returned (.bool (wit n 0 60)) ∧ w' = w := by
  go_enter Tryd.func36, Tryd.ntmps36
  go_wp2_with (go_at_call 35; refine (within_any _ _ _ _).mono ?_; rintro e w' ⟨rfl, rfl⟩)
  refine bodyPost_ret (results_tmp rfl _ _ _) rfl ?_
  exact ⟨rfl, rfl⟩
theorem isPlace_any (p : Int) (nb : Nat) (n : Nat) (hn8 : n < 9223372036854775807) (w : World) (hn : w.cell? ⟨nb, 0, none⟩ = some (.int .i64 (n : Int))) : Calls Tryd.prog 59 #[.int .i64 p, .pointer (some ⟨nb, 0, none⟩)] w fun e w' => e = .returned (.bool (wit p 0 ((n : Int) - 1))) ∧ w' = w := by
  go_enter Tryd.func59, Tryd.ntmps59
  go_wp2_with (go_at_call 35; refine (within_any _ _ _ _).mono ?_; rintro e w' ⟨rfl, rfl⟩)
  refine bodyPost_ret (results_tmp rfl _ _ _) rfl ?_
  exact ⟨rfl, rfl⟩
theorem badRoom_any (n : Int) (w : World) : Calls Tryd.prog 63 #[.int .i64 n] w fun e w' => e = .returned (.bool (!wit n 0 1000)) ∧ w' = w := by
  go_enter Tryd.func63, Tryd.ntmps63
  go_wp2_with (go_at_call 61; refine (isRoom_any _ _).mono ?_; rintro e w' ⟨rfl, rfl⟩)
  refine bodyPost_ret (results_tmp rfl _ _ _) rfl ?_
  exact ⟨rfl, rfl⟩
def badTrail (n : Nat) (x : S51) : Bool := !wit x.f0 0 ((n : Int) - 1) || !wit x.f1 0 ((n : Int) - 1) || decide (x.f0 = x.f1) || !wit x.f2 1 60 || !wit x.f3 0 1000
def badArr (n : Nat) (x : S49) : Bool := !wit x.f0 0 60 || !wit x.f1 0 ((n : Int) - 1) || !wit x.f2 0 1000
set_option maxRecDepth 100000 in
set_option maxHeartbeats 1000000 in
theorem badTrail_any (x : S51) (cb nb : Nat) (n : Nat) (hn8 : n < 9223372036854775807) (w : World) (hn : w.cell? ⟨nb, 0, none⟩ = some (.int .i64 (n : Int))) (hc : w.cell? ⟨cb, 0, none⟩ = some (.func (.func 59) #[] #[.pointer (some ⟨nb, 0, none⟩)])) :
    Calls Tryd.prog 60 #[.agg #[.int .i64 x.f0, .int .i64 x.f1, .int .i64 x.f2, .int .i64 x.f3], .pointer (some ⟨cb, 0, none⟩)] w fun e w' => e = .returned (.bool (badTrail n x)) ∧ Below w.heap.size w w' := by
  have hcl := World.block_lt_of_cell? w _ hc
  have hnl := World.block_lt_of_cell? w _ hn
  simp only at hcl hnl
  go_enter Tryd.func60, Tryd.ntmps60
  obtain ⟨q1, hq1⟩ : ∃ q, wit x.f0 0 ((n : Int) - 1) = q := ⟨_, rfl⟩
  obtain ⟨q2, hq2⟩ : ∃ q, wit x.f1 0 ((n : Int) - 1) = q := ⟨_, rfl⟩
  obtain ⟨q3, hq3⟩ : ∃ q, wit x.f2 1 60 = q := ⟨_, rfl⟩
  obtain ⟨q4, hq4⟩ : ∃ q, wit x.f3 0 1000 = q := ⟨_, rfl⟩
  have e : badTrail n x = (!q1 || !q2 || decide (x.f0 = x.f1) || !q3 || !q4) := by simp only [badTrail, hq1, hq2, hq3, hq4]
  rw [e]
  have HQ1 := Lib.hid hq1
  have HQ2 := Lib.hid hq2
  have HQ3 := Lib.hid hq3
  have HQ4 := Lib.hid hq4
  clear hq1 hq2 hq3 hq4 e
  cases q1
  case false =>
    go_wp2_with (first | (go_at_call 59; refine (isPlace_any _ nb n hn8 _ (cell_alloc' _ hn)).mono ?_; rintro e w' ⟨rfl, rfl⟩; rw [HQ1.out]))
    refine bodyPost_ret (results_tmp rfl _ _ _) rfl ?_
    exact ⟨by simp, (Below.refl _ w).alloc (Nat.le_refl _) _⟩
  case true =>
  cases q2
  case false =>
    go_wp2_with (first | (go_at_call 59; refine (isPlace_any x.f0 nb n hn8 _ (cell_alloc' _ hn)).mono ?_; rintro e w' ⟨rfl, rfl⟩; rw [HQ1.out]) | (go_at_call 59; refine (isPlace_any x.f1 nb n hn8 _ (cell_alloc' _ hn)).mono ?_; rintro e w' ⟨rfl, rfl⟩; rw [HQ2.out]))
    refine bodyPost_ret (results_tmp rfl _ _ _) rfl ?_
    exact ⟨by simp, (Below.refl _ w).alloc (Nat.le_refl _) _⟩
  case true =>
  by_cases h3 : x.f0 = x.f1
  · go_wp2_with (first | (go_at_call 59; refine (isPlace_any x.f0 nb n hn8 _ (cell_alloc' _ hn)).mono ?_; rintro e w' ⟨rfl, rfl⟩; rw [HQ1.out]) | (go_at_call 59; refine (isPlace_any x.f1 nb n hn8 _ (cell_alloc' _ hn)).mono ?_; rintro e w' ⟨rfl, rfl⟩; rw [HQ2.out]))
    refine bodyPost_ret (results_tmp rfl _ _ _) rfl ?_
    exact ⟨by simp [h3], (Below.refl _ w).alloc (Nat.le_refl _) _⟩
  · go_wp2_with (first | (go_at_call 59; refine (isPlace_any x.f0 nb n hn8 _ (cell_alloc' _ hn)).mono ?_; rintro e w' ⟨rfl, rfl⟩; rw [HQ1.out]) | (go_at_call 59; refine (isPlace_any x.f1 nb n hn8 _ (cell_alloc' _ hn)).mono ?_; rintro e w' ⟨rfl, rfl⟩; rw [HQ2.out]) | (go_at_call 35; refine (within_any _ _ _ _).mono ?_; rintro e w' ⟨rfl, rfl⟩; rw [HQ3.out]) | (go_at_call 61; refine (isRoom_any _ _).mono ?_; rintro e w' ⟨rfl, rfl⟩; rw [HQ4.out]))
    all_goals
      refine bodyPost_ret (results_tmp rfl _ _ _) rfl ?_
      exact ⟨by simp_all, (Below.refl _ w).alloc (Nat.le_refl _) _⟩

set_option maxRecDepth 100000 in
set_option maxHeartbeats 1000000 in
theorem badArr_any (x : S49) (cb nb : Nat) (n : Nat) (hn8 : n < 9223372036854775807) (w : World) (hn : w.cell? ⟨nb, 0, none⟩ = some (.int .i64 (n : Int))) (hc : w.cell? ⟨cb, 0, none⟩ = some (.func (.func 59) #[] #[.pointer (some ⟨nb, 0, none⟩)])) :
    Calls Tryd.prog 62 #[.agg #[.int .i64 x.f0, .int .i64 x.f1, .int .i64 x.f2], .pointer (some ⟨cb, 0, none⟩)] w fun e w' => e = .returned (.bool (badArr n x)) ∧ Below w.heap.size w w' := by
  have hcl := World.block_lt_of_cell? w _ hc
  have hnl := World.block_lt_of_cell? w _ hn
  simp only at hcl hnl
  go_enter Tryd.func62, Tryd.ntmps62
  obtain ⟨q1, hq1⟩ : ∃ q, wit x.f0 0 60 = q := ⟨_, rfl⟩
  obtain ⟨q2, hq2⟩ : ∃ q, wit x.f1 0 ((n : Int) - 1) = q := ⟨_, rfl⟩
  obtain ⟨q4, hq4⟩ : ∃ q, wit x.f2 0 1000 = q := ⟨_, rfl⟩
  have e : badArr n x = (!q1 || !q2 || !q4) := by simp only [badArr, hq1, hq2, hq4]
  rw [e]
  have HQ1 := Lib.hid hq1
  have HQ2 := Lib.hid hq2
  have HQ4 := Lib.hid hq4
  clear hq1 hq2 hq4 e
  cases q1 <;> cases q2 <;> go_wp2_with (first | (go_at_call 59; refine (isPlace_any x.f1 nb n hn8 _ (cell_alloc' _ hn)).mono ?_; rintro e w' ⟨rfl, rfl⟩; rw [HQ2.out]) | (go_at_call 36; refine (isMinute_any _ _).mono ?_; rintro e w' ⟨rfl, rfl⟩; rw [HQ1.out]) | (go_at_call 61; refine (isRoom_any _ _).mono ?_; rintro e w' ⟨rfl, rfl⟩; rw [HQ4.out]))
  all_goals
    refine bodyPost_ret (results_tmp rfl _ _ _) rfl ?_
    exact ⟨by simp_all, (Below.refl _ w).alloc (Nat.le_refl _) _⟩

/-! ### slices.IndexFunc, slices.ContainsFunc -/
theorem index_rooms (w : World) (A : Option Addr) (c : Nat) (l : List Int) (hl : l.length ≤ 100) (hr : Kd.C (Kd.int .i64) w A l.length l) :
    Calls Tryd.prog 78 #[.slice A l.length c, .func (.func 63) #[] #[]] w fun e w' => ∃ r : Int, e = .returned (.int .i64 r) ∧ Below w.heap.size w w' ∧ (0 ≤ r ↔ ∃ i : Int, 0 ≤ i ∧ i < l.length ∧ wit (rd l i) 0 1000 = false) := by
  have HR := Lib.hid hr
  clear hr
  obtain ⟨n, hn⟩ : ∃ n, l.length = n := ⟨_, rfl⟩
  rw [hn] at hl ⊢
  go_enter Tryd.func78, Tryd.ntmps78
  go_wp2
  go_loopg [8] n (fun g v8 X => ∃ i : Nat, g + i = n ∧ v8 = .int .i64 (i : Int) ∧ Below w.heap.size w X ∧ ∀ j : Int, 0 ≤ j → j < i → wit (rd l j) 0 1000 = true)
  case atStart => exact ⟨0, rfl, rfl, Below.refl _ _, fun j h1 h2 => by omega⟩
  case round =>
    obtain ⟨i, hg, rfl, hb, ha⟩ := hrel
    have HB := Lib.hid hb
    have HA := Lib.hid ha
    clear ha hb
    by_cases hi : i < n
    · obtain ⟨ad, rfl, hc⟩ := Kd.at_int HR.out (i : Int) (by omega) (by omega)
      have hcx := (HB.out.cell (World.block_lt_of_cell? w _ hc)).trans hc
      simp only [Int.toNat_natCast] at hcx
      clear hc
      cases hw : wit (rd l (i : Int)) 0 1000
      · have HW := Lib.hid hw
        clear hw
        go_wp2_with (first | (go_at_call 63; refine (badRoom_any _ _).mono ?_; rintro e w' ⟨rfl, rfl⟩; rw [HW.out]))
        refine bodyPost_ret (results_tmp rfl _ _ _) rfl ?_
        exact ⟨i, rfl, HB.out, fun _ => ⟨i, by omega, by omega, HW.out⟩, fun _ => by omega⟩
      · have HW := Lib.hid hw
        clear hw
        go_wp2_with (first | (go_at_call 63; refine (badRoom_any _ _).mono ?_; rintro e w' ⟨rfl, rfl⟩; rw [HW.out]))
        go_roundg (n - (i + 1))
        case measure => omega
        case rel => exact ⟨i + 1, by omega, by go_num, HB.out, fun j h1 h2 => by
          by_cases e : j = i
          · subst e; exact HW.out
          · exact HA.out j h1 (by omega)⟩
    · go_wp2
      refine bodyPost_ret (results_tmp rfl _ _ _) rfl ?_
      refine ⟨-1, rfl, HB.out, by omega, ?_⟩
      rintro ⟨j, h1, h2, h3⟩
      rw [HA.out j h1 (by omega)] at h3
      cases h3
end Go.Proofs.YtnhcpflenajeaaaDoor

/- The checks, second part: trails, arrivals, isVisit, errorOf. -/
set_option linter.unusedVariables false
set_option linter.unusedSimpArgs false
namespace Go.Proofs.YtnhcpflenajeaaaDoor
open Go.RowKit Go.Proofs.YtnhcpflenajeaaaDoorW.PrintWords Go.Proofs.YtnhcpflenajeaaaDoorW.PrintMore PCrowdMost Mem

theorem index_trails (w : World) (A : Option Addr) (c : Nat) (l : List S51) (hl : l.length ≤ 100) (cb nb m : Nat) (hm : m < 9223372036854775807) (hnb : w.cell? ⟨nb, 0, none⟩ = some (.int .i64 (m : Int))) (hcb : w.cell? ⟨cb, 0, none⟩ = some (.func (.func 59) #[] #[.pointer (some ⟨nb, 0, none⟩)])) (hr : Kd.C k51 w A l.length l) :
    Calls Tryd.prog 79 #[.slice A l.length c, .func (.func 60) #[] #[.pointer (some ⟨cb, 0, none⟩)]] w fun e w' => ∃ r : Int, e = .returned (.int .i64 r) ∧ Below w.heap.size w w' ∧ (0 ≤ r ↔ ∃ i : Int, 0 ≤ i ∧ i < l.length ∧ badTrail m (rd_T51 l i) = true) := by
  have HR := Lib.hid hr
  have hcl := World.block_lt_of_cell? w _ hcb
  have hnl := World.block_lt_of_cell? w _ hnb
  simp only at hcl hnl
  clear hr
  obtain ⟨n, hn⟩ : ∃ n, l.length = n := ⟨_, rfl⟩
  rw [hn] at hl ⊢
  go_enter Tryd.func79, Tryd.ntmps79
  go_wp2
  go_loopg [8] n (fun g v8 X => ∃ i : Nat, g + i = n ∧ v8 = .int .i64 (i : Int) ∧ Below w.heap.size w X ∧ ∀ j : Int, 0 ≤ j → j < i → badTrail m (rd_T51 l j) = false)
  case atStart => exact ⟨0, rfl, rfl, Below.refl _ _, fun j h1 h2 => by omega⟩
  case round =>
    obtain ⟨i, hg, rfl, hb, ha⟩ := hrel
    have HB := Lib.hid hb
    have HA := Lib.hid ha
    clear ha hb
    by_cases hi : i < n
    · obtain ⟨ad, rfl, hc0, hc1, hc2, hc3⟩ := at_T51 HR.out (i : Int) (by omega) (by omega)
      have hx0 := (HB.out.cell (World.block_lt_of_cell? w _ hc0)).trans hc0
      have hx1 := (HB.out.cell (World.block_lt_of_cell? w _ hc1)).trans hc1
      have hx2 := (HB.out.cell (World.block_lt_of_cell? w _ hc2)).trans hc2
      have hx3 := (HB.out.cell (World.block_lt_of_cell? w _ hc3)).trans hc3
      simp only [Int.toNat_natCast] at hx0 hx1 hx2 hx3
      clear hc0 hc1 hc2 hc3
      have hnx := (HB.out.cell (p := ⟨nb, 0, none⟩) hnl).trans hnb
      have hcx := (HB.out.cell (p := ⟨cb, 0, none⟩) hcl).trans hcb
      obtain ⟨x, hx⟩ : ∃ x, rd_T51 l (i : Int) = x := ⟨_, rfl⟩
      rw [hx] at hx0 hx1 hx2 hx3
      have HX := Lib.hid hx
      clear hx
      cases hw : badTrail m x
      · have HW := Lib.hid hw
        clear hw
        go_wp2_with (first | (go_at_call 60; refine (badTrail_any x cb nb m hm _ hnx hcx).mono ?_; rintro e X1 ⟨rfl, hbx⟩; have HBX := Lib.hid hbx; clear hbx; rw [HW.out]))
        go_roundg (n - (i + 1))
        case measure => omega
        case rel => exact ⟨i + 1, by omega, by go_num, HB.out.trans (HBX.out.mono HB.out.size), fun j h1 h2 => by
          by_cases e : j = i
          · subst e; rw [HX.out]; exact HW.out
          · exact HA.out j h1 (by omega)⟩
      · have HW := Lib.hid hw
        clear hw
        go_wp2_with (first | (go_at_call 60; refine (badTrail_any x cb nb m hm _ hnx hcx).mono ?_; rintro e X1 ⟨rfl, hbx⟩; have HBX := Lib.hid hbx; clear hbx; rw [HW.out]))
        refine bodyPost_ret (results_tmp rfl _ _ _) rfl ?_
        exact ⟨i, rfl, HB.out.trans (HBX.out.mono HB.out.size), fun _ => ⟨i, by omega, by omega, by rw [HX.out]; exact HW.out⟩, fun _ => by omega⟩
    · go_wp2
      refine bodyPost_ret (results_tmp rfl _ _ _) rfl ?_
      refine ⟨-1, rfl, HB.out, by omega, ?_⟩
      rintro ⟨j, h1, h2, h3⟩
      rw [HA.out j h1 (by omega)] at h3
      cases h3

theorem index_arrs (w : World) (A : Option Addr) (c : Nat) (l : List S49) (hl : l.length ≤ 100) (cb nb m : Nat) (hm : m < 9223372036854775807) (hnb : w.cell? ⟨nb, 0, none⟩ = some (.int .i64 (m : Int))) (hcb : w.cell? ⟨cb, 0, none⟩ = some (.func (.func 59) #[] #[.pointer (some ⟨nb, 0, none⟩)])) (hr : Kd.C k49 w A l.length l) :
    Calls Tryd.prog 80 #[.slice A l.length c, .func (.func 62) #[] #[.pointer (some ⟨cb, 0, none⟩)]] w fun e w' => ∃ r : Int, e = .returned (.int .i64 r) ∧ Below w.heap.size w w' ∧ (0 ≤ r ↔ ∃ i : Int, 0 ≤ i ∧ i < l.length ∧ badArr m (rd_T49 l i) = true) := by
  have HR := Lib.hid hr
  have hcl := World.block_lt_of_cell? w _ hcb
  have hnl := World.block_lt_of_cell? w _ hnb
  simp only at hcl hnl
  clear hr
  obtain ⟨n, hn⟩ : ∃ n, l.length = n := ⟨_, rfl⟩
  rw [hn] at hl ⊢
  go_enter Tryd.func80, Tryd.ntmps80
  go_wp2
  go_loopg [8] n (fun g v8 X => ∃ i : Nat, g + i = n ∧ v8 = .int .i64 (i : Int) ∧ Below w.heap.size w X ∧ ∀ j : Int, 0 ≤ j → j < i → badArr m (rd_T49 l j) = false)
  case atStart => exact ⟨0, rfl, rfl, Below.refl _ _, fun j h1 h2 => by omega⟩
  case round =>
    obtain ⟨i, hg, rfl, hb, ha⟩ := hrel
    have HB := Lib.hid hb
    have HA := Lib.hid ha
    clear ha hb
    by_cases hi : i < n
    · obtain ⟨ad, rfl, hc0, hc1, hc2⟩ := at_T49 HR.out (i : Int) (by omega) (by omega)
      have hx0 := (HB.out.cell (World.block_lt_of_cell? w _ hc0)).trans hc0
      have hx1 := (HB.out.cell (World.block_lt_of_cell? w _ hc1)).trans hc1
      have hx2 := (HB.out.cell (World.block_lt_of_cell? w _ hc2)).trans hc2
      simp only [Int.toNat_natCast] at hx0 hx1 hx2
      clear hc0 hc1 hc2
      have hnx := (HB.out.cell (p := ⟨nb, 0, none⟩) hnl).trans hnb
      have hcx := (HB.out.cell (p := ⟨cb, 0, none⟩) hcl).trans hcb
      obtain ⟨x, hx⟩ : ∃ x, rd_T49 l (i : Int) = x := ⟨_, rfl⟩
      rw [hx] at hx0 hx1 hx2
      have HX := Lib.hid hx
      clear hx
      cases hw : badArr m x
      · have HW := Lib.hid hw
        clear hw
        go_wp2_with (first | (go_at_call 62; refine (badArr_any x cb nb m hm _ hnx hcx).mono ?_; rintro e X1 ⟨rfl, hbx⟩; have HBX := Lib.hid hbx; clear hbx; rw [HW.out]))
        go_roundg (n - (i + 1))
        case measure => omega
        case rel => exact ⟨i + 1, by omega, by go_num, HB.out.trans (HBX.out.mono HB.out.size), fun j h1 h2 => by
          by_cases e : j = i
          · subst e; rw [HX.out]; exact HW.out
          · exact HA.out j h1 (by omega)⟩
      · have HW := Lib.hid hw
        clear hw
        go_wp2_with (first | (go_at_call 62; refine (badArr_any x cb nb m hm _ hnx hcx).mono ?_; rintro e X1 ⟨rfl, hbx⟩; have HBX := Lib.hid hbx; clear hbx; rw [HW.out]))
        refine bodyPost_ret (results_tmp rfl _ _ _) rfl ?_
        exact ⟨i, rfl, HB.out.trans (HBX.out.mono HB.out.size), fun _ => ⟨i, by omega, by omega, by rw [HX.out]; exact HW.out⟩, fun _ => by omega⟩
    · go_wp2
      refine bodyPost_ret (results_tmp rfl _ _ _) rfl ?_
      refine ⟨-1, rfl, HB.out, by omega, ?_⟩
      rintro ⟨j, h1, h2, h3⟩
      rw [HA.out j h1 (by omega)] at h3
      cases h3

theorem contains_rooms (w : World) (A : Option Addr) (c : Nat) (l : List Int) (hl : l.length ≤ 100) (hr : Kd.C (Kd.int .i64) w A l.length l) :
    Calls Tryd.prog 64 #[.slice A l.length c, .func (.func 63) #[] #[]] w fun e w' => ∃ q : Bool, e = .returned (.bool q) ∧ Below w.heap.size w w' ∧ (q = true ↔ ∃ i : Int, 0 ≤ i ∧ i < l.length ∧ wit (rd l i) 0 1000 = false) := by
  go_enter Tryd.func64, Tryd.ntmps64
  go_wp2_with (first | (go_at_call 78; refine (index_rooms w A c l hl hr).mono ?_; rintro e X ⟨r, rfl, hb, hi⟩; have HB := Lib.hid hb; have HI := Lib.hid hi; clear hb hi))
  refine bodyPost_ret (results_tmp rfl _ _ _) rfl ?_
  refine ⟨decide (0 ≤ r), rfl, HB.out, ?_⟩
  rw [decide_eq_true_iff]
  exact HI.out

theorem contains_trails (w : World) (A : Option Addr) (c : Nat) (l : List S51) (hl : l.length ≤ 100) (cb nb m : Nat) (hm : m < 9223372036854775807) (hnb : w.cell? ⟨nb, 0, none⟩ = some (.int .i64 (m : Int))) (hcb : w.cell? ⟨cb, 0, none⟩ = some (.func (.func 59) #[] #[.pointer (some ⟨nb, 0, none⟩)])) (hr : Kd.C k51 w A l.length l) :
    Calls Tryd.prog 65 #[.slice A l.length c, .func (.func 60) #[] #[.pointer (some ⟨cb, 0, none⟩)]] w fun e w' => ∃ q : Bool, e = .returned (.bool q) ∧ Below w.heap.size w w' ∧ (q = true ↔ ∃ i : Int, 0 ≤ i ∧ i < l.length ∧ badTrail m (rd_T51 l i) = true) := by
  go_enter Tryd.func65, Tryd.ntmps65
  go_wp2_with (first | (go_at_call 79; refine (index_trails w A c l hl cb nb m hm hnb hcb hr).mono ?_; rintro e X ⟨r, rfl, hb, hi⟩; have HB := Lib.hid hb; have HI := Lib.hid hi; clear hb hi))
  refine bodyPost_ret (results_tmp rfl _ _ _) rfl ?_
  refine ⟨decide (0 ≤ r), rfl, HB.out, ?_⟩
  rw [decide_eq_true_iff]
  exact HI.out

theorem contains_arrs (w : World) (A : Option Addr) (c : Nat) (l : List S49) (hl : l.length ≤ 100) (cb nb m : Nat) (hm : m < 9223372036854775807) (hnb : w.cell? ⟨nb, 0, none⟩ = some (.int .i64 (m : Int))) (hcb : w.cell? ⟨cb, 0, none⟩ = some (.func (.func 59) #[] #[.pointer (some ⟨nb, 0, none⟩)])) (hr : Kd.C k49 w A l.length l) :
    Calls Tryd.prog 66 #[.slice A l.length c, .func (.func 62) #[] #[.pointer (some ⟨cb, 0, none⟩)]] w fun e w' => ∃ q : Bool, e = .returned (.bool q) ∧ Below w.heap.size w w' ∧ (q = true ↔ ∃ i : Int, 0 ≤ i ∧ i < l.length ∧ badArr m (rd_T49 l i) = true) := by
  go_enter Tryd.func66, Tryd.ntmps66
  go_wp2_with (first | (go_at_call 80; refine (index_arrs w A c l hl cb nb m hm hnb hcb hr).mono ?_; rintro e X ⟨r, rfl, hb, hi⟩; have HB := Lib.hid hb; have HI := Lib.hid hi; clear hb hi))
  refine bodyPost_ret (results_tmp rfl _ _ _) rfl ?_
  refine ⟨decide (0 ≤ r), rfl, HB.out, ?_⟩
  rw [decide_eq_true_iff]
  exact HI.out

end Go.Proofs.YtnhcpflenajeaaaDoor
