/- The crowd's functions by what they tell, in the print's form: Most, Wall, See, Soonest. -/
import Derived.Test.YtnhcpflenajeaaaDoorJCatch
import Derived.Test.YtnhcpflenajeaaaDoorJShelf
import Derived.Test.YtnhcpflenajeaaaDoorJNewNet
set_option linter.unusedVariables false
set_option linter.unusedSimpArgs false
namespace Go.Proofs.YtnhcpflenajeaaaDoor
open Go.RowKit Go.Proofs.YtnhcpflenajeaaaDoorW.PrintWords Go.Proofs.YtnhcpflenajeaaaDoorW.PrintMore PCrowdMost Mem

theorem eps_eq {α : Type} [Nonempty α] {P : α → Prop} (hu : ∀ a b, P a → P b → a = b) {a : α} (h : P a) : Classical.epsilon P = a := hu _ _ (Classical.epsilon_spec ⟨a, h⟩) h
theorem isLeast_inj {A : List Arc} {m n : Int} (h : IsLeast A m) (k : IsLeast A n) : m = n := by
  obtain ⟨h1, R, h2, h3⟩ := h
  obtain ⟨k1, S, k2, k3⟩ := k
  have := h1 S k2
  have := k1 R h2
  omega
theorem isWall_inj {A : List Arc} {n : Int} {R S : Knot → Bool} (h : IsWall A n R) (k : IsWall A n S) (x : Knot) : R x = S x := by
  rw [Bool.eq_iff_iff]
  exact ⟨h.2.2 S k.1 k.2.1 x, k.2.2 R h.1 h.2.1 x⟩
/-- What Most tells. -/
def MostIs (v : Vis) (place minute : Int) (r : Int × Int) : Prop := ∃ c, errOf v place minute c ∧ (c ≠ 0 → r = (0, c)) ∧ (c = 0 → r.2 = 0 ∧ IsLeast (netArcs v place minute) r.1)
theorem mostIs_inj (v : Vis) (place minute : Int) (a b : Int × Int) (h : MostIs v place minute a) (k : MostIs v place minute b) : a = b := by
  obtain ⟨c, h0, h1, h2⟩ := h
  obtain ⟨d, k0, k1, k2⟩ := k
  obtain rfl := errOf_inj h0 k0
  by_cases hc : c = 0
  · obtain ⟨e1, e2⟩ := h2 hc
    obtain ⟨f1, f2⟩ := k2 hc
    have := isLeast_inj e2 f2
    cases a; cases b; simp_all
  · rw [h1 hc, k1 hc]
theorem seeIs_inj (v : Vis) (l : List S56) (place minute : Int) (a b : Int × Int × Int) (h : SeeIs v l place minute a) (k : SeeIs v l place minute b) : a = b := by
  obtain ⟨c, h0, h1⟩ := h
  obtain ⟨d, k0, k1⟩ := k
  obtain rfl := errOf_inj h0 k0
  rcases h1 with ⟨e1, e2⟩ | ⟨e1, e2, e3⟩ | ⟨e1, e2, e3⟩ <;> rcases k1 with ⟨f1, f2⟩ | ⟨f1, f2, f3⟩ | ⟨f1, f2, f3⟩
  all_goals first | (rw [e2, f2]; done) | (rw [e3, f3]; done) | omega
theorem soonIs_inj (v : Vis) (place people : Int) (a b : Int × Int) (h : SoonIs v place people a) (k : SoonIs v place people b) : a = b := by
  obtain ⟨c, h0, h1⟩ := h
  obtain ⟨d, k0, k1⟩ := k
  obtain rfl := errOf_inj h0 k0
  have hno : ∀ u, Less v place people u → Enough v place people u → False := by
    rintro u ⟨m, hm, hl⟩ ⟨n, hn, he⟩
    have := isLeast_inj hm hn
    omega
  rcases h1 with ⟨e1, e2⟩ | ⟨e1, e2, e3⟩ | ⟨e1, e2, e3⟩ <;> rcases k1 with ⟨f1, f2⟩ | ⟨f1, f2, f3⟩ | ⟨f1, f2, f3⟩
  · rw [e2, f2]
  · exact absurd f1 e1
  · exact absurd f1 e1
  · exact absurd e1 f1
  · rw [e3, f3]
  · exact absurd f2 e2
  · exact absurd e1 f1
  · exact absurd e2 f2
  · rcases e3 with ⟨t, t1, t2, t3, t4⟩ | ⟨t2, t4⟩ <;> rcases f3 with ⟨u, u1, u2, u3, u4⟩ | ⟨u2, u4⟩
    · have : t = u := by
        rcases Nat.lt_trichotomy t u with hlt | heq | hgt
        · exact (hno t (u4 t hlt) t3).elim
        · exact heq
        · exact (hno u (t4 u hgt) u3).elim
      rw [t2, u2, this]
    · exact (hno t (u4 t t1) t3).elim
    · exact (hno u (t4 u u1) u3).elim
    · rw [t2, u2]

/-! ### Wall -/
def ltT (a b : Stand) : Prop := a.p < b.p ∨ (a.p = b.p ∧ a.m < b.m)
theorem sorted_eq : ∀ (l m : List Stand), l.Pairwise ltT → m.Pairwise ltT → (∀ s, s ∈ l ↔ s ∈ m) → l = m
  | [], [], _, _, _ => rfl
  | [], b :: m, _, _, h => by have := (h b).2 (List.mem_cons_self ..); simp at this
  | a :: l, [], _, _, h => by have := (h a).1 (List.mem_cons_self ..); simp at this
  | a :: l, b :: m, hl, hm, h => by
    obtain ⟨l1, l2⟩ := List.pairwise_cons.1 hl
    obtain ⟨m1, m2⟩ := List.pairwise_cons.1 hm
    have hab : a = b := by
      rcases List.mem_cons.1 ((h a).1 (List.mem_cons_self ..)) with e | e
      · exact e
      · rcases List.mem_cons.1 ((h b).2 (List.mem_cons_self ..)) with f | f
        · exact f.symm
        · have h1 := m1 a e
          have h2 := l1 b f
          unfold ltT at h1 h2
          omega
    subst hab
    rw [sorted_eq l m l2 m2 (fun s => by
      have hs := h s
      simp only [List.mem_cons] at hs
      constructor
      · intro hsl
        rcases hs.1 (.inr hsl) with e | e
        · subst e
          have := l1 s hsl
          unfold ltT at this
          omega
        · exact e
      · intro hsm
        rcases hs.2 (.inr hsm) with e | e
        · subst e
          have := m1 s hsm
          unfold ltT at this
          omega
        · exact e)]
def s46 (s : Stand) : S46 := ⟨s.p, s.m⟩
/-- What Wall tells. -/
def WallIs (v : Vis) (place minute : Int) (r : List S46 × Int) : Prop := ∃ c, errOf v place minute c ∧ (c ≠ 0 → r = ([], c)) ∧
  (c = 0 → ∃ (m : Int) (R : Knot → Bool) (ks : List Stand), IsLeast (netArcs v place minute) m ∧ IsWall (netArcs v place minute) m R ∧ r = (ks.map s46, 0) ∧ ks.Pairwise ltT ∧ ∀ s : Stand, s ∈ ks ↔ R (kn s.p s.m) = true)
theorem wallIs_inj (v : Vis) (place minute : Int) (a b : List S46 × Int) (h : WallIs v place minute a) (k : WallIs v place minute b) : a = b := by
  obtain ⟨c, h0, h1, h2⟩ := h
  obtain ⟨d, k0, k1, k2⟩ := k
  obtain rfl := errOf_inj h0 k0
  by_cases hc : c = 0
  · obtain ⟨m, R, ks, e1, e2, e3, e4, e5⟩ := h2 hc
    obtain ⟨n, S, ls, f1, f2, f3, f4, f5⟩ := k2 hc
    obtain rfl := isLeast_inj e1 f1
    rw [e3, f3, sorted_eq ks ls e4 f4 (fun s => by rw [e5, f5, isWall_inj e2 f2])]
  · rw [h1 hc, k1 hc]

/-- The arcs' ends are stands, the source, or the sink. -/
def EndOk (k : Knot) : Prop := k.e = 0 ∨ k = src0 ∨ k = snk
theorem upto_all {α : Type} {P : α → Prop} {g : Int → List α} : ∀ (n : Nat), (∀ i : Nat, i < n → ∀ x ∈ g (i : Int), P x) → ∀ x ∈ upto g n, P x
  | 0, _ => by simp [upto]
  | n + 1, h => by
    rw [upto_succ]
    intro x hx
    rcases List.mem_append.1 hx with hx | hx
    · exact upto_all n (fun i hi => h i (by omega)) x hx
    · exact h n (by omega) x hx
theorem netArcs_ends (v : Vis) (place minute : Int) : ∀ a ∈ netArcs v place minute, EndOk a.src ∧ EndOk a.dst := by
  have two_ok : ∀ (s d : Knot) (r : Int), EndOk s → EndOk d → ∀ a ∈ two s d r, EndOk a.src ∧ EndOk a.dst := by
    intro s d r hs hd a ha
    simp only [two, List.mem_cons, List.not_mem_nil, or_false] at ha
    rcases ha with rfl | rfl
    · exact ⟨hs, hd⟩
    · exact ⟨hd, hs⟩
  have hk : ∀ p t, EndOk (kn p t) := fun p t => .inl rfl
  unfold netArcs
  intro a ha
  rcases List.mem_append.1 ha with ha | ha
  · rcases List.mem_append.1 ha with ha | ha
    · refine upto_all (P := fun a => EndOk a.src ∧ EndOk a.dst) _ (fun t _ => ?_) a ha
      intro x hx
      unfold minuteArcs at hx
      rcases List.mem_append.1 hx with hx | hx
      · refine upto_all (P := fun a => EndOk a.src ∧ EndOk a.dst) _ (fun p _ => ?_) x hx
        unfold roomArc
        split
        · exact two_ok _ _ _ (hk _ _) (hk _ _)
        · simp
      · refine upto_all (P := fun a => EndOk a.src ∧ EndOk a.dst) _ (fun p _ => ?_) x hx
        unfold trailArc
        split
        · exact two_ok _ _ _ (hk _ _) (hk _ _)
        · simp
    · refine upto_all (P := fun a => EndOk a.src ∧ EndOk a.dst) _ (fun i _ => ?_) a ha
      unfold arrArc
      split
      · exact two_ok _ _ _ (.inr (.inl rfl)) (hk _ _)
      · simp
  · exact two_ok _ _ _ (hk _ _) (.inr (.inr rfl)) a ha
theorem wall_told {v : Vis} {place minute m : Int} {pre : Pre} {ks : List Stand} {A' : List Arc} (hW : IsWall (netArcs v place minute) m (reachB pre)) (he : ends A' = ends (netArcs v place minute)) (ht : Tree A' pre) (hp : ks.Perm (pre.map fun x => standOf x.1)) (hs : ks.Pairwise (fun a b => 0 ≤ cfS b a)) :
    ks.Pairwise ltT ∧ ∀ s : Stand, s ∈ ks ↔ reachB pre (kn s.p s.m) = true := by
  have h0 : ∀ x ∈ pre, x.1.e = 0 := by
    intro x hx
    obtain ⟨a, ha, hd⟩ := ht.idx x hx
    have h1 : (ends (netArcs v place minute))[x.2]? = some (a.src, a.dst) := by rw [← he]; simp [ends, ha]
    simp only [ends, List.getElem?_map, Option.map_eq_some_iff] at h1
    obtain ⟨b, hb, hb'⟩ := h1
    have hb2 := (netArcs_ends v place minute b (List.mem_of_getElem? hb)).2
    injection hb' with _ hb'
    rw [hb', hd] at hb2
    rcases hb2 with h | h | h
    · exact h
    · have := (List.nodup_cons.1 ht.nodup).1
      exact absurd (List.mem_map.2 ⟨x, hx, h⟩) this
    · have h3 := hW.1.2
      simp only [reachB, decide_eq_false_iff_not] at h3
      exact absurd (.inr (List.mem_map.2 ⟨x, hx, h⟩)) h3
  have hnd : (pre.map fun x => standOf x.1).Nodup := by
    have h1 := (List.nodup_cons.1 ht.nodup).2
    have h2 : (pre.map fun x => standOf x.1) = (pre.map (·.1)).map standOf := by simp
    rw [h2]
    refine List.Pairwise.map _ ?_ (List.Pairwise.imp_of_mem (S := fun a b => a ≠ b ∧ a.e = 0 ∧ b.e = 0) ?_ h1)
    · rintro a b ⟨hne, ha, hb⟩ e
      apply hne
      cases a; cases b
      simp [standOf] at e ha hb
      simp [e, ha, hb]
    · intro a b ha hb hne
      obtain ⟨x, hx, rfl⟩ := List.mem_map.1 ha
      obtain ⟨y, hy, rfl⟩ := List.mem_map.1 hb
      exact ⟨hne, h0 x hx, h0 y hy⟩
  refine ⟨?_, fun s => ?_⟩
  · have hn2 : ks.Nodup := hp.nodup_iff.2 hnd
    refine (List.Pairwise.and hs hn2).imp ?_
    rintro a b ⟨h1, h2⟩
    have h3 : ¬ cfS b a < 0 := by omega
    rw [cfS_neg] at h3
    unfold ltT
    rcases Int.lt_trichotomy a.p b.p with h | h | h
    · exact .inl h
    · rcases Int.lt_trichotomy a.m b.m with k | k | k
      · exact .inr ⟨h, k⟩
      · exact absurd (by cases a; cases b; simp at h k; simp [h, k]) h2
      · exact absurd (.inr ⟨h.symm, k⟩) h3
    · exact absurd (.inl h) h3
  · rw [hp.mem_iff, List.mem_map]
    simp only [reachB, decide_eq_true_eq]
    constructor
    · rintro ⟨x, hx, rfl⟩
      refine .inr (List.mem_map.2 ⟨x, hx, ?_⟩)
      have := h0 x hx
      cases hx1 : x.1
      rw [hx1] at this
      simp at this
      simp [standOf, kn, this]
    · rintro (h | h)
      · have : (kn s.p s.m).e = src0.e := by rw [h]
        simp [kn, src0] at this
      · obtain ⟨x, hx, hx'⟩ := List.mem_map.1 h
        exact ⟨x, hx, by rw [hx']; cases s; rfl⟩
theorem reps_stands (w : World) (base : Nat) (ok : Nat → Prop) : ∀ ks : List Stand, Reps (k46.M w base ok) 2 (ks.map s46) (scells ks)
  | [] => Reps.none _ _
  | s :: ks => by
    have e : scells (s :: ks) = .int .i64 s.p :: .int .i64 s.m :: scells ks := rfl
    rw [e]
    exact Reps.c2 (k46_mkM w base ok (s46 s)) (reps_stands w base ok ks)
theorem wall_any (v : Vis) (A0 A1 A2 : Option Addr) (c0 c1 c2 : Nat) (place minute : Int) (w : World) (hv : VisAt w v A0 A1 A2 c0 c1 c2) (hG : Glob w) (hw2 : 2 ≤ w.heap.size) :
    Calls Tryd.prog 18 #[.agg #[.slice A0 v.rooms.length c0, .slice A1 v.trails.length c1, .slice A2 v.arrivals.length c2], .int .i64 place, .int .i64 minute] w fun e w' => ∃ (u : Value) (r : List S46 × Int), e = .returned (.tuple #[u, .int .i64 r.2]) ∧ Kd.R k46 46 w' w.heap.size (fun _ => True) u r.1 ∧ Below w.heap.size w w' ∧ WallIs v place minute r := by
  refine (callsIn_wide.1 (wall_in sortOk 0 v A0 A1 A2 c0 c1 c2 place minute w hv hG hw2)).mono ?_
  rintro e w' ⟨u, c, rfl, hb, hc, h1, h2⟩
  by_cases h0 : c = 0
  · subst h0
    obtain ⟨m, pre, ks, k1, k2, ⟨A', ka, kt⟩, k3, k4, k5, _⟩ := h2 rfl
    obtain ⟨t1, t2⟩ := wall_told k2 ka kt k3 k4
    refine ⟨u, (ks.map s46, 0), rfl, ⟨fun _ _ => trivial, scells ks, by rw [List.length_map]; exact k5, reps_stands _ _ _ ks⟩, hb, 0, hc, fun h => absurd rfl h, fun _ => ⟨m, _, ks, k1, k2, rfl, t1, t2⟩⟩
  · obtain rfl := h1 h0
    exact ⟨_, ([], c), rfl, Kd.R_nil _ _ _ _ _, hb, c, hc, fun _ => rfl, fun h => absurd h h0⟩

namespace PCrowdMost
noncomputable def crowd_Most.f (l0_0 : List Int) (l0_1 : List (S51)) (l0_2 : List (S49)) (a1 : Int) (a2 : Int) : Option (Int × Int) := some (Classical.epsilon (MostIs ⟨l0_0, l0_1, l0_2⟩ a1 a2))
noncomputable def crowd_Wall.f (l0_0 : List Int) (l0_1 : List (S51)) (l0_2 : List (S49)) (a1 : Int) (a2 : Int) : Option ((List (S46)) × Int) := some (Classical.epsilon (WallIs ⟨l0_0, l0_1, l0_2⟩ a1 a2))
noncomputable def crowd_See.f (l0_0 : List Int) (l0_1 : List (S51)) (l0_2 : List (S49)) (l1 : List (S56)) (a2 : Int) (a3 : Int) : Option (Int × Int × Int) := some (Classical.epsilon (SeeIs ⟨l0_0, l0_1, l0_2⟩ l1 a2 a3))
noncomputable def crowd_Soonest.f (l0_0 : List Int) (l0_1 : List (S51)) (l0_2 : List (S49)) (a1 : Int) (a2 : Int) : Option (Int × Int) := some (Classical.epsilon (SoonIs ⟨l0_0, l0_1, l0_2⟩ a1 a2))
theorem crowd_Most.calls (A0_0 : Option Addr) (c0_0 : Nat) (l0_0 : List Int) (A0_1 : Option Addr) (c0_1 : Nat) (l0_1 : List (S51)) (A0_2 : Option Addr) (c0_2 : Nat) (l0_2 : List (S49)) (a1 : Int) (a2 : Int) (r1 : Int) (r2 : Int) (w : World) (hr0_0 : Kd.C (Kd.int .i64) w A0_0 l0_0.length l0_0) (hc0_0 : l0_0.length ≤ c0_0) (hr0_1 : Kd.C k51 w A0_1 l0_1.length l0_1) (hc0_1 : l0_1.length ≤ c0_1) (hr0_2 : Kd.C k49 w A0_2 l0_2.length l0_2) (hc0_2 : l0_2.length ≤ c0_2) (hG : Glob w ∧ 2 ≤ w.heap.size) (h : crowd_Most.f l0_0 l0_1 l0_2 a1 a2 = some (r1, r2)) :
    Calls Tryd.prog 16 #[.agg #[.slice A0_0 l0_0.length c0_0, .slice A0_1 l0_1.length c0_1, .slice A0_2 l0_2.length c0_2], .int .i64 a1, .int .i64 a2] w fun e w' => e = .returned (.tuple #[.int .i64 r1, .int .i64 r2]) ∧ Below w.heap.size w w' := by
  refine (most_any ⟨l0_0, l0_1, l0_2⟩ A0_0 A0_1 A0_2 c0_0 c0_1 c0_2 a1 a2 w ⟨hr0_0, hc0_0, hr0_1, hc0_1, hr0_2, hc0_2⟩ hG.1 hG.2).mono ?_
  rintro e w' ⟨n, c, rfl, hb, hc, h1, h2⟩
  have hm : MostIs ⟨l0_0, l0_1, l0_2⟩ a1 a2 (n, c) := ⟨c, hc, fun h0 => by rw [h1 h0], fun h0 => ⟨h0, h2 h0⟩⟩
  have he := eps_eq (mostIs_inj _ _ _) hm
  unfold crowd_Most.f at h
  rw [he] at h
  injection h with h
  injection h with h3 h4
  subst h3; subst h4
  exact ⟨rfl, hb⟩
theorem crowd_Wall.calls (A0_0 : Option Addr) (c0_0 : Nat) (l0_0 : List Int) (A0_1 : Option Addr) (c0_1 : Nat) (l0_1 : List (S51)) (A0_2 : Option Addr) (c0_2 : Nat) (l0_2 : List (S49)) (a1 : Int) (a2 : Int) (r1 : List (S46)) (r2 : Int) (w : World) (hr0_0 : Kd.C (Kd.int .i64) w A0_0 l0_0.length l0_0) (hc0_0 : l0_0.length ≤ c0_0) (hr0_1 : Kd.C k51 w A0_1 l0_1.length l0_1) (hc0_1 : l0_1.length ≤ c0_1) (hr0_2 : Kd.C k49 w A0_2 l0_2.length l0_2) (hc0_2 : l0_2.length ≤ c0_2) (hG : Glob w ∧ 2 ≤ w.heap.size) (h : crowd_Wall.f l0_0 l0_1 l0_2 a1 a2 = some (r1, r2)) :
    Calls Tryd.prog 18 #[.agg #[.slice A0_0 l0_0.length c0_0, .slice A0_1 l0_1.length c0_1, .slice A0_2 l0_2.length c0_2], .int .i64 a1, .int .i64 a2] w fun e w' => ∃ v0_ : Value, e = .returned (.tuple #[v0_, .int .i64 r2]) ∧ Kd.R k46 46 w' w.heap.size (fun _ => True) v0_ r1 ∧ Below w.heap.size w w' := by
  refine (wall_any ⟨l0_0, l0_1, l0_2⟩ A0_0 A0_1 A0_2 c0_0 c0_1 c0_2 a1 a2 w ⟨hr0_0, hc0_0, hr0_1, hc0_1, hr0_2, hc0_2⟩ hG.1 hG.2).mono ?_
  rintro e w' ⟨u, r, rfl, hR, hb, hw⟩
  have he := eps_eq (wallIs_inj _ _ _) hw
  unfold crowd_Wall.f at h
  rw [he] at h
  injection h with h
  subst h
  exact ⟨u, rfl, hR, hb⟩
theorem crowd_See.calls (A0_0 : Option Addr) (c0_0 : Nat) (l0_0 : List Int) (A0_1 : Option Addr) (c0_1 : Nat) (l0_1 : List (S51)) (A0_2 : Option Addr) (c0_2 : Nat) (l0_2 : List (S49)) (A1 : Option Addr) (c1 : Nat) (l1 : List (S56)) (a2 : Int) (a3 : Int) (r1 : Int) (r2 : Int) (r3 : Int) (w : World) (hr0_0 : Kd.C (Kd.int .i64) w A0_0 l0_0.length l0_0) (hc0_0 : l0_0.length ≤ c0_0) (hr0_1 : Kd.C k51 w A0_1 l0_1.length l0_1) (hc0_1 : l0_1.length ≤ c0_1) (hr0_2 : Kd.C k49 w A0_2 l0_2.length l0_2) (hc0_2 : l0_2.length ≤ c0_2) (hr1 : Kd.C k56 w A1 l1.length l1) (hc1 : l1.length ≤ c1) (h : crowd_See.f l0_0 l0_1 l0_2 l1 a2 a3 = some (r1, r2, r3)) :
    Calls Tryd.prog 14 #[.agg #[.slice A0_0 l0_0.length c0_0, .slice A0_1 l0_1.length c0_1, .slice A0_2 l0_2.length c0_2], .slice A1 l1.length c1, .int .i64 a2, .int .i64 a3] w fun e w' => e = .returned (.tuple #[.int .i64 r1, .int .i64 r2, .int .i64 r3]) ∧ Below w.heap.size w w' := by
  refine (see_any ⟨l0_0, l0_1, l0_2⟩ A0_0 A0_1 A0_2 A1 c0_0 c0_1 c0_2 c1 l1 a2 a3 w ⟨hr0_0, hc0_0, hr0_1, hc0_1, hr0_2, hc0_2⟩ hr1 hc1).mono ?_
  rintro e w' ⟨r, rfl, hb, hs⟩
  have he := eps_eq (seeIs_inj _ _ _ _) hs
  unfold crowd_See.f at h
  rw [he] at h
  injection h with h
  subst h
  exact ⟨rfl, hb⟩
theorem crowd_Soonest.calls (A0_0 : Option Addr) (c0_0 : Nat) (l0_0 : List Int) (A0_1 : Option Addr) (c0_1 : Nat) (l0_1 : List (S51)) (A0_2 : Option Addr) (c0_2 : Nat) (l0_2 : List (S49)) (a1 : Int) (a2 : Int) (r1 : Int) (r2 : Int) (w : World) (hr0_0 : Kd.C (Kd.int .i64) w A0_0 l0_0.length l0_0) (hc0_0 : l0_0.length ≤ c0_0) (hr0_1 : Kd.C k51 w A0_1 l0_1.length l0_1) (hc0_1 : l0_1.length ≤ c0_1) (hr0_2 : Kd.C k49 w A0_2 l0_2.length l0_2) (hc0_2 : l0_2.length ≤ c0_2) (hG : Glob w ∧ 2 ≤ w.heap.size) (h : crowd_Soonest.f l0_0 l0_1 l0_2 a1 a2 = some (r1, r2)) :
    Calls Tryd.prog 26 #[.agg #[.slice A0_0 l0_0.length c0_0, .slice A0_1 l0_1.length c0_1, .slice A0_2 l0_2.length c0_2], .int .i64 a1, .int .i64 a2] w fun e w' => e = .returned (.tuple #[.int .i64 r1, .int .i64 r2]) ∧ Below w.heap.size w w' := by
  refine (soonest_any ⟨l0_0, l0_1, l0_2⟩ A0_0 A0_1 A0_2 c0_0 c0_1 c0_2 a1 a2 w ⟨hr0_0, hc0_0, hr0_1, hc0_1, hr0_2, hc0_2⟩ hG.1 hG.2).mono ?_
  rintro e w' ⟨r, rfl, hb, hs⟩
  have he := eps_eq (soonIs_inj _ _ _) hs
  unfold crowd_Soonest.f at h
  rw [he] at h
  injection h with h
  subst h
  exact ⟨rfl, hb⟩
/-- The globals, in a later world. -/
theorem glob_later {w W : World} (h : Glob w ∧ 2 ≤ w.heap.size) (hb : Below w.heap.size w W) : Glob W ∧ 2 ≤ W.heap.size := ⟨h.1.below hb h.2, by have := hb.size; omega⟩
end PCrowdMost
end Go.Proofs.YtnhcpflenajeaaaDoor

/- Least walls by certificates: a flow that keeps to the arcs, and a wall as wide. No program in sight. -/
set_option linter.unusedVariables false
set_option linter.unusedSimpArgs false
namespace Go.Proofs.YtnhcpflenajeaaaDoor
open Flow

/-- The pairs with a flow along them. -/
def along : List (Pair Knot) → List Int → List (Pair Knot)
  | p :: ps, x :: xs => ⟨p.u, p.v, p.l + p.r - x, x⟩ :: along ps xs
  | ps, _ => ps
/-- What flows out of a knot, less what flows in. -/
def exc (ps : List (Pair Knot)) (k : Knot) : Int := ps.foldr (fun p s => (if p.u = k then p.r else 0) - (if p.v = k then p.r else 0) + s) 0
def total (S : Knot → Bool) (g : Knot → Int) (K : List Knot) : Int := K.foldr (fun k s => g k * ind (S k) + s) 0
theorem total_add (S : Knot → Bool) (g h : Knot → Int) : ∀ K : List Knot, total S (fun k => g k + h k) K = total S g K + total S h K
  | [] => by simp [total]
  | k :: K => by
    have ih := total_add S g h K
    simp only [total, List.foldr_cons] at ih ⊢
    rw [ih, Int.add_mul]
    omega
theorem total_one (S : Knot → Bool) (u : Knot) (c : Int) : ∀ K : List Knot, K.Nodup → total S (fun k => if u = k then c else 0) K = if u ∈ K then c * ind (S u) else 0
  | [], _ => by simp [total]
  | k :: K, h => by
    obtain ⟨h1, h2⟩ := List.nodup_cons.1 h
    have ih := total_one S u c K h2
    simp only [total, List.foldr_cons] at ih ⊢
    rw [ih]
    by_cases e : u = k
    · subst e
      simp [h1]
    · simp [e]
theorem total_zero (S : Knot → Bool) : ∀ K : List Knot, total S (fun _ => 0) K = 0
  | [] => rfl
  | k :: K => by
    have ih := total_zero S K
    simp only [total, List.foldr_cons] at ih ⊢
    rw [ih]; simp
theorem net_exc (S : Knot → Bool) (K : List Knot) (hK : K.Nodup) : ∀ ps : List (Pair Knot), (∀ p ∈ ps, p.u ∈ K ∧ p.v ∈ K) → net S ps = total S (exc ps) K
  | [], _ => by rw [show exc [] = fun _ => 0 from rfl, total_zero]; rfl
  | p :: ps, h => by
    have ih := net_exc S K hK ps (fun q hq => h q (List.mem_cons_of_mem _ hq))
    obtain ⟨h1, h2⟩ := h p (List.mem_cons_self ..)
    have e : exc (p :: ps) = fun k => ((if p.u = k then p.r else 0) + (if p.v = k then -p.r else 0)) + exc ps k := by
      funext k
      simp only [exc, List.foldr_cons]
      split <;> split <;> omega
    rw [e, total_add, total_add, total_one _ _ _ _ hK, total_one _ _ _ _ hK, if_pos h1, if_pos h2, ← ih]
    simp only [net]
    rw [Int.mul_sub, Int.neg_mul]
    omega
theorem total_ends (S : Knot → Bool) (g : Knot → Int) (n : Int) (K : List Knot) (hK : K.Nodup) (hs : src0 ∈ K) (ht : snk ∈ K) (h : ∀ k ∈ K, g k = (if src0 = k then n else 0) + (if snk = k then -n else 0)) : total S g K = n * (ind (S src0) - ind (S snk)) := by
  have e : total S g K = total S (fun k => (if src0 = k then n else 0) + (if snk = k then -n else 0)) K := by
    have key : ∀ L : List Knot, (∀ k ∈ L, k ∈ K) → total S g L = total S (fun k => (if src0 = k then n else 0) + (if snk = k then -n else 0)) L := by
      intro L
      induction L with
      | nil => intro _; rfl
      | cons a L ih =>
        intro hL
        have := ih (fun k hk => hL k (List.mem_cons_of_mem _ hk))
        simp only [total, List.foldr_cons] at this ⊢
        rw [this, h a (hL a (List.mem_cons_self ..))]
    exact key K (fun k hk => hk)
  rw [e, total_add, total_one _ _ _ _ hK, total_one _ _ _ _ hK, if_pos hs, if_pos ht, Int.mul_sub, Int.neg_mul]
  omega
theorem along_cut (S : Knot → Bool) : ∀ (ps : List (Pair Knot)) (xs : List Int), cut S (along ps xs) = cut S ps
  | [], xs => by cases xs <;> rfl
  | p :: ps, [] => rfl
  | p :: ps, x :: xs => by
    simp only [along, cut, along_cut S ps xs]
    rw [show p.l + p.r - x + x = p.l + p.r by omega]

/-- What a certificate must show, by reckoning. -/
def Good (A : List Arc) (xs : List Int) (W : List Knot) (K : List Knot) (n : Int) : Bool :=
  (along (pairs A) xs).all (fun p => decide (0 ≤ p.l) && decide (0 ≤ p.r) && decide (p.u ∈ K) && decide (p.v ∈ K)) && decide K.Nodup && decide (src0 ∈ K) && decide (snk ∈ K) &&
  K.all (fun k => decide (exc (along (pairs A) xs) k = (if src0 = k then n else 0) + (if snk = k then -n else 0))) && decide (src0 ∈ W) && decide (snk ∉ W) && decide (cut (fun k => decide (k ∈ W)) (pairs A) = n)
theorem Good.parts {A : List Arc} {xs : List Int} {W K : List Knot} {n : Int} (h : Good A xs W K n = true) :
    Fine (along (pairs A) xs) ∧ (∀ S : Knot → Bool, net S (along (pairs A) xs) = n * (ind (S src0) - ind (S snk))) ∧ Wall (fun k => decide (k ∈ W)) ∧ cut (fun k => decide (k ∈ W)) (pairs A) = n := by
  unfold Good at h
  simp only [Bool.and_eq_true, decide_eq_true_eq, List.all_eq_true] at h
  obtain ⟨⟨⟨⟨⟨⟨⟨h1, h2⟩, h3⟩, h4⟩, h5⟩, h6⟩, h7⟩, h8⟩ := h
  refine ⟨fun p hp => ⟨(h1 p hp).1.1.1, (h1 p hp).1.1.2⟩, fun S => ?_, ⟨by simpa using h6, by simpa using h7⟩, h8⟩
  rw [net_exc S K h2 _ (fun p hp => ⟨(h1 p hp).1.2, (h1 p hp).2⟩)]
  exact total_ends S _ n K h2 h3 h4 h5
theorem Good.least {A : List Arc} {xs : List Int} {W K : List Knot} {n : Int} (h : Good A xs W K n = true) : IsLeast A n := by
  obtain ⟨h1, h2, h3, h4⟩ := Good.parts h
  refine ⟨fun S hS => ?_, _, h3, h4⟩
  have := Flow.least _ src0 snk n h1 h2 S hS.1 hS.2
  rwa [along_cut] at this
/-- The wall is the least within all others, where each of its knots is come to over room that is left. -/
def chain (ps : List (Pair Knot)) : List Knot → List Nat → List Knot
  | cur, [] => cur
  | cur, i :: l => match ps[i]? with
    | some p => if p.u ∈ cur ∧ p.l ≠ 0 then chain ps (p.v :: cur) l else []
    | none => []
theorem chain_within (ps : List (Pair Knot)) (S : Knot → Bool) (hc : Closed S ps) : ∀ (l : List Nat) (cur : List Knot), (∀ k ∈ cur, S k = true) → ∀ k ∈ chain ps cur l, S k = true
  | [], cur, h => h
  | i :: l, cur, h => by
    unfold chain
    cases hi : ps[i]? with
    | none => intro k hk; simp at hk
    | some p =>
      simp only
      split
      · rename_i hp
        refine chain_within ps S hc l (p.v :: cur) ?_
        intro k hk
        rcases List.mem_cons.1 hk with rfl | hk
        · exact (hc p (List.mem_of_getElem? hi)).1 (h _ hp.1) hp.2
        · exact h k hk
      · intro k hk; simp at hk
theorem Good.wall {A : List Arc} {xs : List Int} {W K : List Knot} {n : Int} (h : Good A xs W K n = true) (l : List Nat) (hl : decide (∀ k ∈ W, k ∈ chain (along (pairs A) xs) [src0] l) = true) : IsWall A n (fun k => decide (k ∈ W)) := by
  obtain ⟨h1, h2, h3, h4⟩ := Good.parts h
  refine ⟨h3, h4, fun S hS he k hk => ?_⟩
  have hcl := Flow.least_closed _ src0 snk n h1 h2 S hS.1 hS.2 (by rw [along_cut]; exact he)
  have hk' : k ∈ W := by simpa using hk
  exact chain_within _ S hcl l [src0] (fun k hk => by simp at hk; subst hk; exact hS.1) k (of_decide_eq_true hl k hk')

/-- There is a least width. -/
theorem least_ex {C : Int} {A : List Arc} (hc : Caps C A) : ∃ n, IsLeast A n := by
  have h0 : ∀ (B : List Arc) (S : Knot → Bool), Caps C B → 0 ≤ cut S (pairs B) := by
    intro B S
    induction B using pairs.induct with
    | case1 a b l ih =>
      intro h
      have h1 := h ⟨a.src, a.dst, a.left, b.left⟩ (by simp [pairs])
      have h2 := ih (fun p hp => h p (by simp [pairs, hp]))
      simp only [pairs, cut]
      simp only at h1
      split <;> omega
    | case2 B h => intro _; cases B with
      | nil => simp [pairs, cut]
      | cons a B => cases B with
        | nil => simp [pairs, cut]
        | cons b B => exact absurd rfl (h a b B)
  have key : ∀ (m : Nat) (S : Knot → Bool), Wall S → (cut S (pairs A)).toNat = m → ∃ n, IsLeast A n := by
    intro m
    induction m using Nat.strongRecOn with
    | ind m ih =>
      intro S hS hm
      by_cases h : ∃ S', Wall S' ∧ cut S' (pairs A) < cut S (pairs A)
      · obtain ⟨S', h1, h2⟩ := h
        have := h0 A S' hc
        exact ih _ (by omega) S' h1 rfl
      · refine ⟨_, fun S' hS' => ?_, S, hS, rfl⟩
        by_cases h2 : cut S (pairs A) ≤ cut S' (pairs A)
        · exact h2
        · exact absurd ⟨S', hS', by omega⟩ h
  exact key _ (fun k => decide (k = src0)) ⟨by decide, by decide⟩ rfl
end Go.Proofs.YtnhcpflenajeaaaDoor

/- The document's examples: what Most, Wall, See and Soonest tell of them. -/
set_option linter.unusedVariables false
set_option linter.unusedSimpArgs false
namespace Go.Proofs.YtnhcpflenajeaaaDoor
open Go.RowKit Go.Proofs.YtnhcpflenajeaaaDoorW.PrintWords Go.Proofs.YtnhcpflenajeaaaDoorW.PrintMore PCrowdMost Mem

def smp : Vis := ⟨[50, 5, 55], [⟨0, 1, 2, 10⟩, ⟨1, 2, 3, 8⟩, ⟨0, 2, 7, 4⟩], [⟨0, 0, 40⟩, ⟨3, 0, 20⟩]⟩
def sml : Vis := ⟨[4, 9], [⟨0, 1, 1, 3⟩], [⟨0, 0, 10⟩]⟩
theorem smp_ok : smp.Ok where
  n1 := by decide
  n8 := by decide
  t16 := by decide
  a16 := by decide
  room i h0 h1 := by
    have h : i < 3 := h1
    obtain rfl | rfl | rfl : i = 0 ∨ i = 1 ∨ i = 2 := by omega
    all_goals decide
  trail i h0 h1 := by
    have h : i < 3 := h1
    obtain rfl | rfl | rfl : i = 0 ∨ i = 1 ∨ i = 2 := by omega
    all_goals decide
  arr i h0 h1 := by
    have h : i < 2 := h1
    obtain rfl | rfl : i = 0 ∨ i = 1 := by omega
    all_goals decide
theorem sml_ok : sml.Ok where
  n1 := by decide
  n8 := by decide
  t16 := by decide
  a16 := by decide
  room i h0 h1 := by
    have h : i < 2 := h1
    obtain rfl | rfl : i = 0 ∨ i = 1 := by omega
    all_goals decide
  trail i h0 h1 := by
    have h : i < 1 := h1
    obtain rfl : i = 0 := by omega
    decide
  arr i h0 h1 := by
    have h : i < 1 := h1
    obtain rfl : i = 0 := by omega
    decide
def allK (n m : Nat) : List Knot := src0 :: snk :: (List.range n).flatMap fun (p : Nat) => (List.range (m + 1)).map fun (t : Nat) => kn p t
/-- A greatest flow: s 2 0: 0. -/
def fl_s0 : List Int := [0, 0]
def wa_s0 : List Knot := [src0, kn 0 0]
/-- A greatest flow: s 2 1: 0. -/
def fl_s1 : List Int := [0, 0, 0, 0, 0]
def wa_s1 : List Knot := [src0, kn 0 0, kn 0 1]
/-- A greatest flow: s 2 2: 0. -/
def fl_s2 : List Int := [0, 0, 0, 0, 0, 0, 0, 0, 0]
def wa_s2 : List Knot := [src0, kn 0 0, kn 0 1, kn 1 2, kn 0 2]
/-- A greatest flow: s 2 3: 0. -/
def fl_s3 : List Int := [0, 0, 0, 0, 0, 0, 0, 0, 0, 0, 0, 0, 0, 0, 0]
def wa_s3 : List Knot := [src0, kn 0 0, kn 0 3, kn 0 1, kn 1 2, kn 0 2, kn 1 3]
/-- A greatest flow: s 2 4: 0. -/
def fl_s4 : List Int := [0, 0, 0, 0, 0, 0, 0, 0, 0, 0, 0, 0, 0, 0, 0, 0, 0, 0, 0, 0]
def wa_s4 : List Knot := [src0, kn 0 0, kn 0 3, kn 0 1, kn 1 2, kn 0 4, kn 0 2, kn 1 3, kn 1 4]
/-- A greatest flow: s 2 5: 8. -/
def fl_s5 : List Int := [0, 0, 0, 8, 0, 0, 0, 0, 0, 0, 0, 0, 0, 0, 8, 0, 0, 0, 0, 0, 0, 0, 8, 0, 8]
def wa_s5 : List Knot := [src0, kn 0 0, kn 0 3, kn 0 1, kn 1 2, kn 0 4, kn 1 5, kn 0 2, kn 1 3, kn 0 5, kn 1 4]
/-- A greatest flow: s 2 9: 52. -/
def fl_s9 : List Int := [24, 0, 0, 8, 0, 4, 12, 0, 0, 8, 0, 4, 0, 0, 0, 8, 8, 4, 8, 0, 0, 8, 8, 0, 0, 0, 8, 8, 0, 0, 8, 0, 8, 0, 0, 16, 0, 8, 0, 0, 28, 0, 0, 0, 40, 36, 16, 52]
def wa_s9 : List Knot := [src0, kn 0 0, kn 0 3, kn 0 1, kn 1 2, kn 0 4, kn 1 5, kn 0 2, kn 1 3, kn 0 5, kn 1 6, kn 1 4, kn 0 6, kn 1 7, kn 0 7, kn 1 8, kn 0 8, kn 1 9, kn 0 9]
/-- A greatest flow: s 2 10: 55. -/
def fl_s10 : List Int := [31, 0, 0, 0, 0, 4, 20, 0, 0, 7, 0, 4, 8, 0, 0, 8, 0, 4, 16, 0, 0, 8, 7, 4, 8, 0, 0, 8, 8, 0, 0, 0, 8, 8, 0, 0, 7, 0, 8, 0, 0, 19, 0, 8, 0, 0, 31, 0, 0, 0, 43, 35, 20, 55]
def wa_s10 : List Knot := [src0, kn 0 0, kn 0 1, kn 1 2, kn 0 2, kn 1 3, kn 2 5, kn 0 3, kn 1 4, kn 2 6, kn 0 4, kn 1 5, kn 2 7, kn 0 5, kn 1 6, kn 2 8, kn 0 6, kn 1 7, kn 2 9, kn 0 7, kn 1 8, kn 2 10, kn 0 8, kn 1 9, kn 0 9, kn 1 10, kn 0 10]
/-- A greatest flow: m 1 2: 6. -/
def fl_m2 : List Int := [3, 0, 3, 0, 3, 3, 6, 6]
def wa_m2 : List Knot := [src0, kn 0 0, kn 0 1, kn 0 2]
def tr_m2 : List Nat := [6, 0, 3]
theorem good_s0 : Good (netArcs smp 2 0) fl_s0 wa_s0 (allK 3 0) 0 = true := by decide +kernel
theorem good_s1 : Good (netArcs smp 2 1) fl_s1 wa_s1 (allK 3 1) 0 = true := by decide +kernel
theorem good_s2 : Good (netArcs smp 2 2) fl_s2 wa_s2 (allK 3 2) 0 = true := by decide +kernel
theorem good_s3 : Good (netArcs smp 2 3) fl_s3 wa_s3 (allK 3 3) 0 = true := by decide +kernel
theorem good_s4 : Good (netArcs smp 2 4) fl_s4 wa_s4 (allK 3 4) 0 = true := by decide +kernel
theorem good_s5 : Good (netArcs smp 2 5) fl_s5 wa_s5 (allK 3 5) 8 = true := by decide +kernel
theorem good_s9 : Good (netArcs smp 2 9) fl_s9 wa_s9 (allK 3 9) 52 = true := by decide +kernel
theorem good_s10 : Good (netArcs smp 2 10) fl_s10 wa_s10 (allK 3 10) 55 = true := by decide +kernel
theorem good_m2 : Good (netArcs sml 1 2) fl_m2 wa_m2 (allK 2 2) 6 = true := by decide +kernel
theorem wall_m2 : IsWall (netArcs sml 1 2) 6 (fun k => decide (k ∈ wa_m2)) := Good.wall good_m2 tr_m2 (by decide +kernel)
theorem most_at (v : Vis) (hok : v.Ok) (p m n : Int) (hp : 0 ≤ p ∧ p < v.rooms.length) (hm : 0 ≤ m ∧ m ≤ 60) (h : IsLeast (netArcs v p m) n) : crowd_Most.f v.rooms v.trails v.arrivals p m = some (n, 0) := by
  unfold crowd_Most.f
  rw [eps_eq (mostIs_inj _ _ _) (a := (n, 0)) ⟨0, .inr (.inr ⟨hok, ⟨hp.1, hp.2, hm.1, hm.2⟩, rfl⟩), fun h => absurd rfl h, fun _ => ⟨rfl, h⟩⟩]
theorem see_at (v : Vis) (hok : v.Ok) (l : List S56) (p m : Int) (r : Int × Int × Int) (hp : 0 ≤ p ∧ p < v.rooms.length) (hm : 0 ≤ m ∧ m ≤ 60) (hl : l.length ≤ 256) (h : seeF v l p m = r) : crowd_See.f v.rooms v.trails v.arrivals l p m = some r := by
  unfold crowd_See.f
  rw [eps_eq (seeIs_inj _ _ _ _) (a := r) ⟨0, .inr (.inr ⟨hok, ⟨hp.1, hp.2, hm.1, hm.2⟩, rfl⟩), .inr (.inr ⟨rfl, hl, h.symm⟩)⟩]
theorem soon_at (v : Vis) (hok : v.Ok) (p q : Int) (r : Int × Int) (hp : 0 ≤ p ∧ p < v.rooms.length) (hq : 1 ≤ q ∧ q ≤ 1000) (h : (∃ t : Nat, t ≤ 60 ∧ r = ((t : Int), 0) ∧ Enough v p q t ∧ ∀ u, u < t → Less v p q u) ∨ (r = (-1, 0) ∧ ∀ u, u ≤ 60 → Less v p q u)) : crowd_Soonest.f v.rooms v.trails v.arrivals p q = some r := by
  unfold crowd_Soonest.f
  rw [eps_eq (soonIs_inj _ _ _) (a := r) ⟨0, .inr (.inr ⟨hok, ⟨hp.1, hp.2, by omega, by omega⟩, rfl⟩), .inr (.inr ⟨rfl, hq, h⟩)⟩]
theorem smp_most9 : crowd_Most.f [50, 5, 55] [⟨0, 1, 2, 10⟩, ⟨1, 2, 3, 8⟩, ⟨0, 2, 7, 4⟩] [⟨0, 0, 40⟩, ⟨3, 0, 20⟩] 2 9 = some (52, 0) := most_at smp smp_ok 2 9 52 (by decide) (by decide) (Good.least good_s9)
theorem smp_most4 : crowd_Most.f [50, 5, 55] [⟨0, 1, 2, 10⟩, ⟨1, 2, 3, 8⟩, ⟨0, 2, 7, 4⟩] [⟨0, 0, 40⟩, ⟨3, 0, 20⟩] 2 4 = some (0, 0) := most_at smp smp_ok 2 4 0 (by decide) (by decide) (Good.least good_s4)
theorem smp_most5 : crowd_Most.f [50, 5, 55] [⟨0, 1, 2, 10⟩, ⟨1, 2, 3, 8⟩, ⟨0, 2, 7, 4⟩] [⟨0, 0, 40⟩, ⟨3, 0, 20⟩] 2 5 = some (8, 0) := most_at smp smp_ok 2 5 8 (by decide) (by decide) (Good.least good_s5)
theorem smp_most10 : crowd_Most.f [50, 5, 55] [⟨0, 1, 2, 10⟩, ⟨1, 2, 3, 8⟩, ⟨0, 2, 7, 4⟩] [⟨0, 0, 40⟩, ⟨3, 0, 20⟩] 2 10 = some (55, 0) := most_at smp smp_ok 2 10 55 (by decide) (by decide) (Good.least good_s10)
theorem sml_most : crowd_Most.f [4, 9] [⟨0, 1, 1, 3⟩] [⟨0, 0, 10⟩] 1 2 = some (6, 0) := most_at sml sml_ok 1 2 6 (by decide) (by decide) (Good.least good_m2)
theorem smp_see8 : crowd_See.f [50, 5, 55] [⟨0, 1, 2, 10⟩, ⟨1, 2, 3, 8⟩, ⟨0, 2, 7, 4⟩] [⟨0, 0, 40⟩, ⟨3, 0, 20⟩] [⟨0, 0, 10⟩, ⟨2, 1, 8⟩] 2 5 = some (8, 2, 0) := see_at smp smp_ok _ 2 5 _ (by decide) (by decide) (by decide) (by decide +kernel)
theorem smp_see9 : crowd_See.f [50, 5, 55] [⟨0, 1, 2, 10⟩, ⟨1, 2, 3, 8⟩, ⟨0, 2, 7, 4⟩] [⟨0, 0, 40⟩, ⟨3, 0, 20⟩] [⟨0, 0, 10⟩, ⟨2, 1, 9⟩] 2 5 = some (0, 1, 9) := see_at smp smp_ok _ 2 5 _ (by decide) (by decide) (by decide) (by decide +kernel)
theorem smp_soon8 : crowd_Soonest.f [50, 5, 55] [⟨0, 1, 2, 10⟩, ⟨1, 2, 3, 8⟩, ⟨0, 2, 7, 4⟩] [⟨0, 0, 40⟩, ⟨3, 0, 20⟩] 2 8 = some (5, 0) := by
  refine soon_at smp smp_ok 2 8 _ (by decide) (by decide) (.inl ⟨5, by omega, rfl, ⟨8, Good.least good_s5, by omega⟩, fun u hu => ?_⟩)
  obtain rfl | rfl | rfl | rfl | rfl : u = 0 ∨ u = 1 ∨ u = 2 ∨ u = 3 ∨ u = 4 := by omega
  · exact ⟨0, Good.least good_s0, by omega⟩
  · exact ⟨0, Good.least good_s1, by omega⟩
  · exact ⟨0, Good.least good_s2, by omega⟩
  · exact ⟨0, Good.least good_s3, by omega⟩
  · exact ⟨0, Good.least good_s4, by omega⟩
theorem cuts55 : ∀ u ∈ List.range 61, Flow.cut (fun k => decide (k ≠ snk)) (pairs (netArcs smp 2 ((u : Nat) : Int))) = 55 := by decide +kernel
theorem smp_soon56 : crowd_Soonest.f [50, 5, 55] [⟨0, 1, 2, 10⟩, ⟨1, 2, 3, 8⟩, ⟨0, 2, 7, 4⟩] [⟨0, 0, 40⟩, ⟨3, 0, 20⟩] 2 56 = some (-1, 0) := by
  refine soon_at smp smp_ok 2 56 _ (by decide) (by decide) (.inr ⟨rfl, fun u hu => ?_⟩)
  obtain ⟨n, hn⟩ := least_ex (fresh_net smp smp_ok 2 (u : Int) (by decide) (by omega)).caps
  have h := hn.1 (fun k => decide (k ≠ snk)) ⟨by decide, by decide⟩
  rw [cuts55 u (by simp; omega)] at h
  exact ⟨n, hn, by omega⟩
theorem sml_wall : crowd_Wall.f [4, 9] [⟨0, 1, 1, 3⟩] [⟨0, 0, 10⟩] 1 2 = some ([⟨0, 0⟩, ⟨0, 1⟩, ⟨0, 2⟩], 0) := by
  unfold crowd_Wall.f
  rw [eps_eq (wallIs_inj _ _ _) (a := ([⟨0, 0⟩, ⟨0, 1⟩, ⟨0, 2⟩], 0))]
  refine ⟨0, .inr (.inr ⟨sml_ok, by decide, rfl⟩), fun h => absurd rfl h, fun _ => ⟨6, _, [⟨0, 0⟩, ⟨0, 1⟩, ⟨0, 2⟩], Good.least good_m2, wall_m2, rfl, by simp [ltT], fun s => ?_⟩⟩
  cases s
  simp [wa_m2, kn, src0]
end Go.Proofs.YtnhcpflenajeaaaDoor
