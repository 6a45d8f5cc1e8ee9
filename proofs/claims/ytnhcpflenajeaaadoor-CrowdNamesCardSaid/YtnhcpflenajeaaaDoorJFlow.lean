/- The plain law of networks: what flows is at most what a cut lets through, and just that where nothing more can be reached. No program in sight. -/
set_option linter.unusedVariables false
namespace Go.Proofs.YtnhcpflenajeaaaDoor
namespace Flow

/-- 1 or 0. -/
def ind (b : Bool) : Int := if b then 1 else 0
theorem ind_true : ind true = 1 := rfl
theorem ind_false : ind false = 0 := rfl
theorem ind_bd (b : Bool) : 0 ≤ ind b ∧ ind b ≤ 1 := by cases b <;> simp [ind]

/-- A pair of arcs: from u to v there is l left, and r back. -/
structure Pair (N : Type) where
  u : N
  v : N
  l : Int
  r : Int

variable {N : Type}
/-- What flows out of a set, less what flows in. -/
def net (S : N → Bool) : List (Pair N) → Int
  | [] => 0
  | p :: ps => p.r * (ind (S p.u) - ind (S p.v)) + net S ps
/-- What a cut lets through. -/
def cut (S : N → Bool) : List (Pair N) → Int
  | [] => 0
  | p :: ps => (if S p.u && !S p.v then p.l + p.r else 0) + cut S ps

def Fine (ps : List (Pair N)) : Prop := ∀ p ∈ ps, 0 ≤ p.l ∧ 0 ≤ p.r
/-- S is closed: no more can leave it. -/
def Closed (S : N → Bool) (ps : List (Pair N)) : Prop := ∀ p ∈ ps, (S p.u = true → p.l ≠ 0 → S p.v = true) ∧ (S p.v = true → p.r ≠ 0 → S p.u = true)

theorem net_le_cut (S : N → Bool) : ∀ (ps : List (Pair N)), Fine ps → net S ps ≤ cut S ps
  | [], _ => by simp [net, cut]
  | p :: ps, h => by
    have ih := net_le_cut S ps (fun q hq => h q (List.mem_cons_of_mem _ hq))
    obtain ⟨h1, h2⟩ := h p (List.mem_cons_self ..)
    simp only [net, cut]
    cases hu : S p.u <;> cases hv : S p.v <;> simp [ind] <;> omega

theorem net_eq_cut (S : N → Bool) : ∀ (ps : List (Pair N)), Closed S ps → net S ps = cut S ps
  | [], _ => by simp [net, cut]
  | p :: ps, h => by
    have ih := net_eq_cut S ps (fun q hq => h q (List.mem_cons_of_mem _ hq))
    obtain ⟨h1, h2⟩ := h p (List.mem_cons_self ..)
    simp only [net, cut]
    cases hu : S p.u <;> cases hv : S p.v <;> simp [ind, hu, hv] at h1 h2 ⊢ <;> omega

theorem closed_of_eq (S : N → Bool) : ∀ (ps : List (Pair N)), Fine ps → net S ps = cut S ps → Closed S ps
  | [], _, _ => by intro p hp; cases hp
  | p :: ps, h, he => by
    have hf : Fine ps := fun q hq => h q (List.mem_cons_of_mem _ hq)
    have hle := net_le_cut S ps hf
    obtain ⟨h1, h2⟩ := h p (List.mem_cons_self ..)
    simp only [net, cut] at he
    have hboth : net S ps = cut S ps ∧ ((S p.u = true → p.l ≠ 0 → S p.v = true) ∧ (S p.v = true → p.r ≠ 0 → S p.u = true)) := by
      cases hu : S p.u <;> cases hv : S p.v <;> simp [ind, hu, hv] at he ⊢ <;> omega
    have ih := closed_of_eq S ps hf hboth.1
    intro q hq
    rcases List.mem_cons.1 hq with rfl | hq
    · exact hboth.2
    · exact ih q hq

/-- Where the flow of worth m keeps to the arcs, and R is closed, between the ends: m is the least cut, and R lies within every other that is as narrow. -/
theorem least (ps : List (Pair N)) (s t : N) (m : Int) (hf : Fine ps) (hn : ∀ S : N → Bool, net S ps = m * (ind (S s) - ind (S t)))
    (S : N → Bool) (hs : S s = true) (ht : S t = false) : m ≤ cut S ps := by
  have h1 := net_le_cut S ps hf
  have h2 := hn S
  simp [hs, ht, ind] at h2
  omega

theorem least_eq (ps : List (Pair N)) (s t : N) (m : Int) (hn : ∀ S : N → Bool, net S ps = m * (ind (S s) - ind (S t)))
    (R : N → Bool) (hs : R s = true) (ht : R t = false) (hc : Closed R ps) : cut R ps = m := by
  have h1 := net_eq_cut R ps hc
  have h2 := hn R
  simp [hs, ht, ind] at h2
  omega

theorem least_closed (ps : List (Pair N)) (s t : N) (m : Int) (hf : Fine ps) (hn : ∀ S : N → Bool, net S ps = m * (ind (S s) - ind (S t)))
    (S : N → Bool) (hs : S s = true) (ht : S t = false) (he : cut S ps = m) : Closed S ps := by
  refine closed_of_eq S ps hf ?_
  have h2 := hn S
  simp [hs, ht, ind] at h2
  omega

end Flow
end Go.Proofs.YtnhcpflenajeaaaDoor
