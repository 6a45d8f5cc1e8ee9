/- See's deferred closure: it catches the panic of a move that cannot be made. -/
import Derived.Test.YtnhcpflenajeaaaDoorJDay
import Derived.Recover
import Derived.RegionTactic
import Derived.ChangeAlike
import Derived.BigRegion
set_option linter.unusedVariables false
set_option linter.unusedSimpArgs false
namespace Go.Proofs.YtnhcpflenajeaaaDoor
open Go.RowKit Mem

theorem hta61 (v : Value) (W : World) : (Instr.typeAssert (.iface 61 v) 20 61 true).run Tryd.prog W = .ok (.tuple #[v, .bool true]) W := by kernel_rfl
theorem wpS_of_wp' {P : Program} {Q : Exit → Act → List Frame → World → Prop} {a : Act} {cs : List Frame} {w : World} {c : Code} (R : Exit → Act → World → Prop) (h : c.wp P R a w) (hR : ∀ e a' w', R e a' w' → Q e a' cs w') : c.wpS P Q a cs w :=
  fun b k _ _ => let ⟨e, a', w', q, r⟩ := h b k cs; ⟨e, a', cs, w', hR _ _ _ q, r⟩
theorem set_one {w : World} {k : Nat} {v : Value} {t : TypeId} {fz : Nat × Nat} (h : w.heap[k]? = some (.cells #[v] t fz)) (u : Value) : (w.setCell ⟨k, 0, none⟩ u).heap[k]? = some (.cells #[u] t fz) := by
  obtain ⟨hlt, hE⟩ := Array.getElem?_eq_some_iff.1 h
  show (w.heap.modify k _)[k]? = _
  rw [Array.getElem?_eq_getElem (by rw [Array.size_modify]; exact hlt), Array.getElem_modify_self, hE]
  rfl
/-- How the closure ends. -/
def CatchEnd (pb eb : Nat) (c : Int) (w : World) : Exit → Act → World → Prop
  | .normal, a, w' => a.defers = [] ∧ w'.heap[pb]? = some (.cells #[.int .i64 0] 3 (0, 0)) ∧ w'.heap[eb]? = some (.cells #[.int .i64 c] 30 (0, 0)) ∧ Fr (fun k => k = pb ∨ k = eb) w w'
  | _, _, _ => False
set_option maxRecDepth 100000 in
set_option maxHeartbeats 1000000 in
theorem catch_panicking (pb eb : Nat) (hne : pb ≠ eb) (x y c : Int) (older : List PanicEntry) (w : World) (hp : w.heap[pb]? = some (.cells #[.int .i64 x] 3)) (he : w.heap[eb]? = some (.cells #[.int .i64 y] 30)) :
    CallsD Tryd.prog 31 #[.pointer (some ⟨pb, 0, none⟩), .pointer (some ⟨eb, 0, none⟩)] (.panicking ({ v := .iface 61 (.agg #[.int .i64 c]), recovered := false } :: older)) w fun e u' w' =>
      e = .returned (.tuple #[]) ∧ u' = .panicking ({ v := .iface 61 (.agg #[.int .i64 c]), recovered := true } :: older) ∧ w'.heap[pb]? = some (.cells #[.int .i64 0] 3) ∧ w'.heap[eb]? = some (.cells #[.int .i64 c] 30) ∧ Fr (fun k => k = pb ∨ k = eb) w w' := by
  refine callsD_of_wpS Tryd.func31 rfl fun c₀ cs hu => ?_
  apply wpS_seq
  apply wpS_region
  simp [wpOpsS, go_sem, recoverD, hu, Tryd.ntmps31, Exit.thenS]
  refine wpS_of_wp' (CatchEnd pb eb c w) ?_ ?_
  · have hta := hta61
    have hp0 : w.cell? ⟨pb, 0, none⟩ = some (.int .i64 x) := cell_of_heap hp 0 _ rfl
    have he0 : w.cell? ⟨eb, 0, none⟩ = some (.int .i64 y) := cell_of_heap he 0 _ rfl
    have HP := Lib.hid hp
    have HE := Lib.hid he
    clear hp he hu
    generalize hV : Value.iface 61 (Value.agg #[Value.int IntKind.i64 c]) = V
    rw [show (#[Value.pointer (some ⟨pb, 0, none⟩), Value.pointer (some ⟨eb, 0, none⟩)] ++ ((Array.replicate 16 undef).setIfInBounds 3 V).setIfInBounds 0 V) = #[.pointer (some ⟨pb, 0, none⟩), .pointer (some ⟨eb, 0, none⟩), V, undef, undef, V, undef, undef, undef, undef, undef, undef, undef, undef, undef, undef, undef, undef] from rfl]
    subst hV
    go_upto_region 5 with fail
    have hpl := (Array.getElem?_eq_some_iff.1 HP.out).1
    have hel := (Array.getElem?_eq_some_iff.1 HE.out).1
    have hpf : w.frozen? ⟨pb, 0, none⟩ = false := by simp [World.frozen?, HP.out]
    have hef : w.frozen? ⟨eb, 0, none⟩ = false := by simp [World.frozen?, HE.out]
    go_region
    all_goals
      refine ⟨rfl, ?_, ?_, ?_⟩
      · have h : (w.setCell ⟨pb, 0, none⟩ (.int .i64 0)).heap[pb]? = some (.cells #[.int .i64 0] 3 (0, 0)) := set_one HP.out _
        exact heap_old _ _ ((Below.heap_setCell _ ⟨eb, 0, none⟩ _ pb hne).trans h)
      · have h2 := (Below.heap_setCell w ⟨pb, 0, none⟩ (.int .i64 0) eb (fun e => hne e.symm)).trans HE.out
        exact heap_old _ _ (set_one h2 _)
      · exact ((Fr.setCell (S := fun k => k = pb ∨ k = eb) (Fr.setCell (S := fun k => k = pb ∨ k = eb) (Fr.refl _ w) (p := ⟨pb, 0, none⟩) (.inl rfl) _) (p := ⟨eb, 0, none⟩) (.inr rfl) _).alloc _).drew
  · intro e a' w' h
    cases e <;> simp only [CatchEnd] at h
    obtain ⟨h1, h2, h3, h4⟩ := h
    simp [bodyPostS, results, Tryd.results31]
    exact ⟨h1, h2, h3, h4⟩

set_option maxHeartbeats 1000000 in
theorem catch_idle (pb eb : Nat) (w : World) :
    CallsD Tryd.prog 31 #[.pointer (some ⟨pb, 0, none⟩), .pointer (some ⟨eb, 0, none⟩)] .returning w fun e u' w' => e = .returned (.tuple #[]) ∧ u' = .returning ∧ w' = w := by
  refine callsD_of_wpS Tryd.func31 rfl fun c₀ cs hu => ?_
  apply wpS_seq
  apply wpS_region
  simp [wpOpsS, go_sem, recoverD, hu, Tryd.ntmps31, Exit.thenS]
  refine wpS_of_wp' (fun e a' w' => e = .normal ∧ a'.defers = [] ∧ w' = w) ?_ ?_
  · rw [show (#[Value.pointer (some ⟨pb, 0, none⟩), Value.pointer (some ⟨eb, 0, none⟩)] ++ ((Array.replicate 16 undef).setIfInBounds 3 Value.nilIface).setIfInBounds 0 Value.nilIface) = #[.pointer (some ⟨pb, 0, none⟩), .pointer (some ⟨eb, 0, none⟩), Value.nilIface, undef, undef, Value.nilIface, undef, undef, undef, undef, undef, undef, undef, undef, undef, undef, undef, undef] from rfl]
    clear hu
    go_wp2
  · rintro e a' w' ⟨rfl, h1, rfl⟩
    simp [bodyPostS, results, Tryd.results31]
    cases c₀
    simp_all
end Go.Proofs.YtnhcpflenajeaaaDoor

/- What See tells, in plain words, and its ends. -/
set_option linter.unusedVariables false
set_option linter.unusedSimpArgs false
namespace Go.Proofs.YtnhcpflenajeaaaDoor
open Go.RowKit Go.Proofs.YtnhcpflenajeaaaDoorW.PrintWords Go.Proofs.YtnhcpflenajeaaaDoorW.PrintMore PCrowdMost Mem

theorem see_dies (R : Ending → World → Prop) (tmps : Array Value) (pb eb : Nat) (i c x y : Int) (X : World) (hne : pb ≠ eb) (h8 : tmps[8]? = some (.pointer (some ⟨pb, 0, none⟩))) (h9 : tmps[9]? = some (.int .i64 i)) (h10 : tmps[10]? = some (.pointer (some ⟨eb, 0, none⟩)))
    (hp : X.heap[pb]? = some (.cells #[.int .i64 x] 3 (0, 0))) (he : X.heap[eb]? = some (.cells #[.int .i64 y] 30 (0, 0))) (hR : ∀ X', Fr (fun k => k = pb ∨ k = eb) X X' → R (.returned (.tuple #[.int .i64 0, .int .i64 i, .int .i64 c])) X') :
    bodyPostD Tryd.prog Tryd.f14 R (Exit.panic [{ v := misfit c, recovered := false }]) ⟨tmps, [{ target := Target.fn (Fn.func 31) #[.pointer (some ⟨pb, 0, none⟩), .pointer (some ⟨eb, 0, none⟩)], args := #[] }]⟩ X := by
  refine leaves_cons (f := 31) (args := #[.pointer (some ⟨pb, 0, none⟩), .pointer (some ⟨eb, 0, none⟩)]) (by simp) (by simp [go_sem]) ?_
  refine (catch_panicking pb eb hne x y c [] X hp he).mono ?_
  rintro e u' w'' ⟨rfl, rfl, h1, h2, h3⟩
  have c1 : w''.cell? ⟨pb, 0, none⟩ = some (.int .i64 0) := cell_of_heap h1 0 _ rfl
  have c2 : w''.cell? ⟨eb, 0, none⟩ = some (.int .i64 c) := cell_of_heap h2 0 _ rfl
  simp [Leaves, settle, results, Tryd.results14, go_sem, h8, h9, h10, c1, c2]
  exact hR _ h3

/-- The people behind the door, where nothing has panicked. -/
theorem see_ends (R : Ending → World → Prop) (tmps : Array Value) (pb eb : Nat) (i x y : Int) (X : World) (h8 : tmps[8]? = some (.pointer (some ⟨pb, 0, none⟩))) (h9 : tmps[9]? = some (.int .i64 i)) (h10 : tmps[10]? = some (.pointer (some ⟨eb, 0, none⟩)))
    (hp : X.cell? ⟨pb, 0, none⟩ = some (.int .i64 x)) (he : X.cell? ⟨eb, 0, none⟩ = some (.int .i64 y)) (hR : R (.returned (.tuple #[.int .i64 x, .int .i64 i, .int .i64 y])) X) :
    bodyPostD Tryd.prog Tryd.f14 R Exit.ret ⟨tmps, [{ target := Target.fn (Fn.func 31) #[.pointer (some ⟨pb, 0, none⟩), .pointer (some ⟨eb, 0, none⟩)], args := #[] }]⟩ X := by
  refine leaves_cons (f := 31) (args := #[.pointer (some ⟨pb, 0, none⟩), .pointer (some ⟨eb, 0, none⟩)]) (by simp) (by simp [go_sem]) ?_
  refine (catch_idle pb eb X).mono ?_
  rintro e u' w'' ⟨rfl, rfl, rfl⟩
  simp [Leaves, settle, results, Tryd.results14, go_sem, h8, h9, h10, hp, he]
  exact hR

/-! ### What See tells, in plain words -/
def goodMove (v : Vis) (m : S56) : Prop := (0 ≤ m.f1 ∧ m.f1 < v.trails.length) ∧ (1 ≤ m.f2 ∧ m.f2 ≤ 1000) ∧ (0 ≤ m.f0 ∧ m.f0 ≤ 60)
instance (v : Vis) (m : S56) : Decidable (goodMove v m) := inferInstanceAs (Decidable (_ ∧ _))
structure St where
  th : List Int
  co : Stand → Int
  out : Int → Int
inductive Res
  | bad (i : Nat) (e : Int)
  | ok (i : Nat) (s : St)
def bump (out : Int → Int) (k n : Int) : Int → Int := fun x => if x = k then out x + n else out x
def St.next (v : Vis) (s : St) (m : S56) : St := ⟨s.th.set (rd_T51 v.trails m.f1).f0.toNat (rd s.th (rd_T51 v.trails m.f1).f0 - m.f2), addAt s.co ⟨(rd_T51 v.trails m.f1).f1, m.f0 + (rd_T51 v.trails m.f1).f2⟩ m.f2, bump s.out m.f1 m.f2⟩
/-- The moves of a minute, from the i-th on; g are left. -/
def steps (v : Vis) (l : List S56) (now : Int) : Nat → Nat → St → Res
  | 0, i, s => .ok i s
  | g + 1, i, s =>
    if goodMove v (rd_T56 l (i : Int)) then
      if (rd_T56 l (i : Int)).f0 < now then .bad i 7
      else if now < (rd_T56 l (i : Int)).f0 then .ok i s
      else if (rd_T51 v.trails (rd_T56 l (i : Int)).f1).f3 < s.out (rd_T56 l (i : Int)).f1 + (rd_T56 l (i : Int)).f2 then .bad i 9
      else if rd s.th (rd_T51 v.trails (rd_T56 l (i : Int)).f1).f0 < (rd_T56 l (i : Int)).f2 then .bad i 10
      else steps v l now g (i + 1) (s.next v (rd_T56 l (i : Int)))
    else .bad i 1
/-- The minutes from now on; g are left. -/
def days (v : Vis) (l : List S56) (place minute : Int) : Nat → Int → Nat → List Int → (Stand → Int) → Int → Int × Int × Int
  | 0, _, i, _, _, seen => (seen, (i : Int), 0)
  | g + 1, now, i, th, co, seen =>
    match steps v l now (l.length - i) i ⟨nextTh v.rooms th co now v.rooms.length, co, fun _ => 0⟩ with
    | .bad i e => (0, (i : Int), e)
    | .ok i s => days v l place minute g (now + 1) i s.th s.co (if now = minute then min (rd (nextTh v.rooms th co now v.rooms.length) place) (rd v.rooms place) else seen)
def seeF (v : Vis) (l : List S56) (place minute : Int) : Int × Int × Int := days v l place minute 61 0 0 (List.replicate v.rooms.length 0) (arr0 v.arrivals) 0
/-- What See tells. -/
def SeeIs (v : Vis) (l : List S56) (place minute : Int) (r : Int × Int × Int) : Prop :=
  ∃ c, errOf v place minute c ∧ ((c ≠ 0 ∧ r = (0, 0, c)) ∨ (c = 0 ∧ 256 < l.length ∧ r = (0, 0, 3)) ∨ (c = 0 ∧ l.length ≤ 256 ∧ r = seeF v l place minute))

/-! ### Its bounds -/
/-- What holds of who is where when i moves have been made. -/
structure DayOk (v : Vis) (i : Nat) (th : List Int) (co : Stand → Int) : Prop where
  len : th.length = v.rooms.length
  th : ∀ p : Int, 0 ≤ p → p < v.rooms.length → 0 ≤ rd th p ∧ rd th p ≤ 17000 + 1000 * (i : Int)
  co : ∀ s, 0 ≤ co s ∧ co s ≤ 16000 + 1000 * (i : Int)
theorem DayOk.start (v : Vis) (h : v.Ok) : DayOk v 0 (List.replicate v.rooms.length 0) (arr0 v.arrivals) where
  len := by simp
  th p h0 h1 := by
    have : rd (List.replicate v.rooms.length (0 : Int)) p = 0 := by
      unfold rd
      rw [List.getD_eq_getElem?_getD, List.getElem?_replicate]
      split <;> rfl
    omega
  co s := by
    have := arrN_bd v h v.arrivals.length (Nat.le_refl _) s
    have := h.a16
    unfold arr0
    omega
theorem rd_nextTh (rooms th : List Int) (co : Stand → Int) (t : Int) (n : Nat) (p : Int) (h0 : 0 ≤ p) (h1 : p < n) : rd (nextTh rooms th co t n) p = min (rd th p) (rd rooms p) + co ⟨p, t⟩ := by
  obtain ⟨k, rfl⟩ := Int.eq_ofNat_of_zero_le h0
  have hk : k < n := by omega
  simp [rd, nextTh, nextAt, hk]
theorem DayOk.begin {v : Vis} (h : v.Ok) {i : Nat} {th : List Int} {co : Stand → Int} (hd : DayOk v i th co) (t : Int) : DayOk v i (nextTh v.rooms th co t v.rooms.length) co where
  len := by simp [nextTh]
  th p h0 h1 := by
    rw [rd_nextTh _ _ _ _ _ _ h0 h1]
    have := hd.th p h0 h1
    have := hd.co ⟨p, t⟩
    have := h.room p h0 h1
    omega
  co := hd.co
theorem rd_set (l : List Int) (k p : Int) (x : Int) (hk : 0 ≤ k) (hkl : k < l.length) (hp : 0 ≤ p) : rd (l.set k.toNat x) p = if p = k then x else rd l p := by
  obtain ⟨a, rfl⟩ := Int.eq_ofNat_of_zero_le hk
  obtain ⟨b, rfl⟩ := Int.eq_ofNat_of_zero_le hp
  simp only [rd, Int.toNat_natCast, List.getD_eq_getElem?_getD, List.getElem?_set]
  by_cases e : a = b
  · subst e
    have : a < l.length := by omega
    simp [this]
  · have : ¬ ((b : Int) = (a : Int)) := by omega
    simp [e, this]
theorem DayOk.next {v : Vis} (h : v.Ok) {i : Nat} {s : St} {m : S56} (hd : DayOk v i s.th s.co) (hm : goodMove v m) (hs : m.f2 ≤ rd s.th (rd_T51 v.trails m.f1).f0) : DayOk v (i + 1) (s.next v m).th (s.next v m).co where
  len := by simp [St.next, hd.len]
  th p h0 h1 := by
    have ht := h.trail m.f1 hm.1.1 hm.1.2
    simp only [St.next]
    rw [rd_set _ _ _ _ ht.1.1 (by rw [hd.len]; exact ht.1.2) h0]
    have := hd.th p h0 h1
    have := hm.2.1
    split
    · rename_i e
      rw [← e] at hs ⊢
      omega
    · omega
  co s' := by
    have := hd.co s'
    have := hm.2.1
    simp only [St.next, addAt]
    split <;> omega
end Go.Proofs.YtnhcpflenajeaaaDoor

/- Soonest: the first minute in which so many can see. -/
set_option linter.unusedVariables false
set_option linter.unusedSimpArgs false
namespace Go.Proofs.YtnhcpflenajeaaaDoor
open Go.RowKit Go.Proofs.YtnhcpflenajeaaaDoorW.PrintWords Go.Proofs.YtnhcpflenajeaaaDoorW.PrintMore PCrowdMost Mem

theorem within_yes (n lo hi : Int) (w : World) (h : lo ≤ n ∧ n ≤ hi) : Calls Tryd.prog 35 #[.int .i64 n, .int .i64 lo, .int .i64 hi] w fun e w' => e = .returned (.bool true) ∧ w' = w := by
  refine (within_any n lo hi w).mono ?_
  rintro e w' ⟨rfl, rfl⟩
  exact ⟨by simp [wit, h], rfl⟩
theorem within_no (n lo hi : Int) (w : World) (h : ¬ (lo ≤ n ∧ n ≤ hi)) : Calls Tryd.prog 35 #[.int .i64 n, .int .i64 lo, .int .i64 hi] w fun e w' => e = .returned (.bool false) ∧ w' = w := by
  refine (within_any n lo hi w).mono ?_
  rintro e w' ⟨rfl, rfl⟩
  refine ⟨?_, rfl⟩
  have : wit n lo hi = false := by unfold wit; exact decide_eq_false h
  rw [this]
theorem isMinute_yes (n : Int) (w : World) (h : 0 ≤ n ∧ n ≤ 60) : Calls Tryd.prog 36 #[.int .i64 n] w fun e w' => e = .returned (.bool true) ∧ w' = w := by
  refine (isMinute_any n w).mono ?_
  rintro e w' ⟨rfl, rfl⟩
  exact ⟨by simp [wit, h], rfl⟩
theorem isMinute_no (n : Int) (w : World) (h : ¬ (0 ≤ n ∧ n ≤ 60)) : Calls Tryd.prog 36 #[.int .i64 n] w fun e w' => e = .returned (.bool false) ∧ w' = w := by
  refine (isMinute_any n w).mono ?_
  rintro e w' ⟨rfl, rfl⟩
  refine ⟨?_, rfl⟩
  have : wit n 0 60 = false := by unfold wit; exact decide_eq_false h
  rw [this]
theorem flow_any (v : Vis) (A0 A1 A2 : Option Addr) (c0 c1 c2 : Nat) (place minute : Int) (X : World) (hv : VisAt X v A0 A1 A2 c0 c1 c2) (hG : Glob X) (hX2 : 2 ≤ X.heap.size) (hok : v.Ok) (hp : 0 ≤ place ∧ place < v.rooms.length) (hm : 0 ≤ minute ∧ minute ≤ 60) :
    Calls Tryd.prog 40 #[.agg #[.slice A0 v.rooms.length c0, .slice A1 v.trails.length c1, .slice A2 v.arrivals.length c2], .agg #[.int .i64 place, .int .i64 minute]] X fun e Y => e = .returned (.map (some (X.heap.size + 2))) ∧ Below X.heap.size X Y ∧
      Calls Tryd.prog 41 #[.map (some (X.heap.size + 2))] Y fun e Z => ∃ n : Int, e = .returned (.int .i64 n) ∧ Below X.heap.size X Z ∧ IsLeast (netArcs v place minute) n := by
  refine (newNet_any v A0 A1 A2 c0 c1 c2 place minute X hv hok hG hp hm).mono ?_
  rintro e Y ⟨rfl, ⟨bs, f, top, hn⟩, hb⟩
  refine ⟨rfl, hb, ?_⟩
  have hfr := fresh_net v hok place minute hp hm.1
  have hlen : (netArcs v place minute).length ≤ 1000000 := by
    unfold netArcs
    have h1 := upto_length (minuteArcs v minute) 48 (fun i => by have := minuteArcs_length v minute i; have := hok.n8; have := hok.t16; omega) (minute + 1).toNat
    have h2 := upto_length (arrArc v minute) 2 (arrArc_length v minute) v.arrivals.length
    have := hok.a16
    simp only [List.length_append, two, List.length_cons, List.length_nil]
    omega
  have htop : X.heap.size + 2 ≤ top := by have := hn.rm.hi; omega
  refine (callsIn_wide.1 (fill_in 0 (X.heap.size + 2) top (X.heap.size + 2) _ bs f Y hn (hG.below hb hX2) (by omega) htop hlen 1000 (by omega) (by omega) hfr.caps (fun S => hfr.zero S))).mono ?_
  rintro e Z ⟨m, A', rfl, hfl, hcp, hnm, ⟨pre, ht, hd, hs⟩, hF⟩
  refine ⟨m, rfl, hb.trans (hF.below hb.size (fun k hk hm => by have := hnm.rng k hm; omega)), (full_wall hfl hnm.backs hcp (fun S => hfr.zero S) ht hd hs).1⟩

/-- The least width at a place in a minute is below a number. -/
def Less (v : Vis) (place people : Int) (u : Nat) : Prop := ∃ n, IsLeast (netArcs v place (u : Int)) n ∧ n < people
def Enough (v : Vis) (place people : Int) (u : Nat) : Prop := ∃ n, IsLeast (netArcs v place (u : Int)) n ∧ people ≤ n
/-- What Soonest tells. -/
def SoonIs (v : Vis) (place people : Int) (r : Int × Int) : Prop :=
  ∃ c, errOf v place 0 c ∧ ((c ≠ 0 ∧ r = (0, c)) ∨ (c = 0 ∧ ¬ (1 ≤ people ∧ people ≤ 1000) ∧ r = (0, 2)) ∨
    (c = 0 ∧ (1 ≤ people ∧ people ≤ 1000) ∧ ((∃ t : Nat, t ≤ 60 ∧ r = ((t : Int), 0) ∧ Enough v place people t ∧ ∀ u, u < t → Less v place people u) ∨ (r = (-1, 0) ∧ ∀ u, u ≤ 60 → Less v place people u))))
def SoonPost (v : Vis) (place people : Int) (w : World) (e : Ending) (w' : World) : Prop :=
  ∃ r : Int × Int, e = .returned (.tuple #[.int .i64 r.1, .int .i64 r.2]) ∧ Below w.heap.size w w' ∧ SoonIs v place people r

set_option maxRecDepth 100000 in
set_option maxHeartbeats 2000000 in
theorem soonest_any (v : Vis) (A0 A1 A2 : Option Addr) (c0 c1 c2 : Nat) (place people : Int) (w : World) (hv : VisAt w v A0 A1 A2 c0 c1 c2) (hG : Glob w) (hw2 : 2 ≤ w.heap.size) :
    Calls Tryd.prog 26 #[.agg #[.slice A0 v.rooms.length c0, .slice A1 v.trails.length c1, .slice A2 v.arrivals.length c2], .int .i64 place, .int .i64 people] w (SoonPost v place people w) := by
  obtain ⟨c, hc⟩ := errOf_ex v place 0
  obtain ⟨R, hR⟩ : ∃ R, R = SoonPost v place people w := ⟨_, rfl⟩
  rw [← hR]
  have HR := Lib.hid hR
  have HV := Lib.hid hv
  have HG := Lib.hid hG
  have HC := Lib.hid hc
  clear hR hv hc hG
  go_enter Tryd.func26, Tryd.ntmps26
  go_wp2_with fail
  have hB1 : Below w.heap.size w (w.alloc (.cells #[.slice A0 v.rooms.length c0, .slice A1 v.trails.length c1, .slice A2 v.arrivals.length c2] 26)) := (Below.refl _ w).alloc (Nat.le_refl _) _
  refine (errorOf_any v A0 A1 A2 c0 c1 c2 place 0 _ (HV.out.below hB1)).mono ?_
  rintro e X ⟨c', rfl, hb, hc'⟩
  obtain rfl := errOf_inj hc' HC.out
  clear hc'
  have hbx : X.heap[w.heap.size]? = some (.cells #[.slice A0 v.rooms.length c0, .slice A1 v.trails.length c1, .slice A2 v.arrivals.length c2] 26 (0, 0)) := (hb.block _ (by simp)).trans (heap_new' w _ _ rfl)
  have hBX : Below w.heap.size w X := hB1.trans (hb.mono (by simp))
  have HBX := Lib.hid hBX
  have HBXX := Lib.hid hbx
  clear hB1 hb hBX hbx
  by_cases h0 : c' = 0
  · subst h0
    by_cases hpp : 1 ≤ people ∧ people ≤ 1000
    · go_wp2_with fail
      refine (within_yes people 1 1000 _ hpp).mono ?_
      rintro e w' ⟨rfl, rfl⟩
      obtain ⟨hok, hpm⟩ := errOf_zero HC.out
      go_wp2_with fail
      go_loopg [20] 61 (fun g v20 Y => ∃ t : Nat, g + t = 61 ∧ v20 = .int .i64 (t : Int) ∧ Below w.heap.size w Y ∧ Y.heap[w.heap.size]? = some (.cells #[.slice A0 v.rooms.length c0, .slice A1 v.trails.length c1, .slice A2 v.arrivals.length c2] 26 (0, 0)) ∧ ∀ u, u < t → Less v place people u)
      case atStart => exact ⟨0, rfl, rfl, HBX.out, HBXX.out, fun u hu => by omega⟩
      case round =>
        obtain ⟨t, hgt, rfl, hbY, hbx, hless⟩ := hrel
        have HBY := Lib.hid hbY
        have HBB := Lib.hid hbx
        have HLESS := Lib.hid hless
        have hb0 : wr.cell? ⟨w.heap.size, 0, none⟩ = some (.slice A0 v.rooms.length c0) := cell_of_heap hbx 0 _ rfl
        have hb1 : wr.cell? ⟨w.heap.size, 1, none⟩ = some (.slice A1 v.trails.length c1) := cell_of_heap hbx 1 _ rfl
        have hb2 : wr.cell? ⟨w.heap.size, 2, none⟩ = some (.slice A2 v.arrivals.length c2) := cell_of_heap hbx 2 _ rfl
        have hwl := (Array.getElem?_eq_some_iff.1 hbx).1
        clear hbY hbx hless
        by_cases ht : t < 61
        · have htI : (t : Int) < 61 := by omega
          go_wp2_with fail
          refine (flow_any v A0 A1 A2 c0 c1 c2 place (t : Int) wr (HV.out.below HBY.out) (HG.out.below HBY.out hw2) (by omega) hok ⟨hpm.1, hpm.2.1⟩ ⟨by omega, by omega⟩).mono ?_
          rintro e Y ⟨rfl, hbY, hfill⟩
          go_wp2_with fail
          refine hfill.mono ?_
          rintro e Z ⟨n, rfl, hbZ, hn⟩
          have HZ := Lib.hid hbZ
          have HN := Lib.hid hn
          clear hbY hfill hbZ hn
          by_cases hen : people ≤ n
          · go_wp2_with fail
            rw [HR.out]
            exact ⟨((t : Int), 0), rfl, HBY.out.trans (HZ.out.mono (by omega)), 0, HC.out, .inr (.inr ⟨rfl, hpp, .inl ⟨t, by omega, rfl, ⟨n, HN.out, hen⟩, HLESS.out⟩⟩)⟩
          · go_wp2_with fail
            go_roundg (61 - (t + 1))
            case measure => omega
            case rel =>
              refine ⟨t + 1, by omega, by go_num, HBY.out.trans (HZ.out.mono (by omega)), (HZ.out.block _ hwl).trans HBB.out, fun u hu => ?_⟩
              by_cases hut : u = t
              · subst hut
                exact ⟨n, HN.out, by omega⟩
              · exact HLESS.out u (by omega)
        · have htI : ¬ (t : Int) < 61 := by omega
          go_wp2_with fail
          rw [HR.out]
          exact ⟨(-1, 0), rfl, HBY.out, 0, HC.out, .inr (.inr ⟨rfl, hpp, .inr ⟨rfl, fun u hu => HLESS.out u (by omega)⟩⟩)⟩
    · go_wp2_with fail
      refine (within_no people 1 1000 _ hpp).mono ?_
      rintro e w' ⟨rfl, rfl⟩
      go_wp2_with fail
      rw [HR.out]
      exact ⟨(0, 2), rfl, HBX.out, 0, HC.out, .inr (.inl ⟨rfl, hpp, rfl⟩)⟩
  · have hcb : (c' != 0) = true := by simp [h0]
    go_wp2_with fail
    rw [HR.out]
    exact ⟨(0, c'), rfl, HBX.out, c', HC.out, .inl ⟨h0, rfl⟩⟩
end Go.Proofs.YtnhcpflenajeaaaDoor

/- See. -/
set_option linter.unusedVariables false
set_option linter.unusedSimpArgs false
namespace Go.Proofs.YtnhcpflenajeaaaDoor
open Go.RowKit Go.Proofs.YtnhcpflenajeaaaDoorW.PrintWords Go.Proofs.YtnhcpflenajeaaaDoorW.PrintMore PCrowdMost Mem

theorem see_ret0 (R : Ending → World → Prop) (tmps : Array Value) (pb eb : Nat) (i x y : Int) (X : World) (h8 : tmps[8]? = some (.pointer (some ⟨pb, 0, none⟩))) (h9 : tmps[9]? = some (.int .i64 i)) (h10 : tmps[10]? = some (.pointer (some ⟨eb, 0, none⟩)))
    (hp : X.cell? ⟨pb, 0, none⟩ = some (.int .i64 x)) (he : X.cell? ⟨eb, 0, none⟩ = some (.int .i64 y)) (hR : R (.returned (.tuple #[.int .i64 x, .int .i64 i, .int .i64 y])) X) :
    bodyPostD Tryd.prog Tryd.f14 R Exit.ret ⟨tmps, []⟩ X := by
  simp [bodyPostD, Leaves, results, Tryd.results14, go_sem, h8, h9, h10, hp, he]
  exact hR
theorem days_ok {v : Vis} {l : List S56} {place minute : Int} {g : Nat} {t : Int} {i : Nat} {th : List Int} {co : Stand → Int} {seen : Int} {j : Nat} {s : St} (h : steps v l t (l.length - i) i ⟨nextTh v.rooms th co t v.rooms.length, co, fun _ => 0⟩ = .ok j s) :
    days v l place minute (g + 1) t i th co seen = days v l place minute g (t + 1) j s.th s.co (if t = minute then min (rd (nextTh v.rooms th co t v.rooms.length) place) (rd v.rooms place) else seen) := by
  simp only [days, h]
theorem days_bad {v : Vis} {l : List S56} {place minute : Int} {g : Nat} {t : Int} {i : Nat} {th : List Int} {co : Stand → Int} {seen : Int} {j : Nat} {e : Int} (h : steps v l t (l.length - i) i ⟨nextTh v.rooms th co t v.rooms.length, co, fun _ => 0⟩ = .bad j e) :
    days v l place minute (g + 1) t i th co seen = (0, (j : Int), e) := by
  simp only [days, h]
def SeePost (v : Vis) (l : List S56) (place minute : Int) (w : World) (e : Ending) (w' : World) : Prop :=
  ∃ r : Int × Int × Int, e = .returned (.tuple #[.int .i64 r.1, .int .i64 r.2.1, .int .i64 r.2.2]) ∧ Below w.heap.size w w' ∧ SeeIs v l place minute r

set_option maxRecDepth 100000 in
set_option maxHeartbeats 4000000 in
theorem see_any (v : Vis) (A0 A1 A2 A3 : Option Addr) (c0 c1 c2 c3 : Nat) (l : List S56) (place minute : Int) (w : World) (hv : VisAt w v A0 A1 A2 c0 c1 c2) (hl : Kd.C k56 w A3 l.length l) (hl3 : l.length ≤ c3) :
    Calls Tryd.prog 14 #[.agg #[.slice A0 v.rooms.length c0, .slice A1 v.trails.length c1, .slice A2 v.arrivals.length c2], .slice A3 l.length c3, .int .i64 place, .int .i64 minute] w (SeePost v l place minute w) := by
  obtain ⟨c, hc⟩ := errOf_ex v place minute
  obtain ⟨R, hR⟩ : ∃ R, R = SeePost v l place minute w := ⟨_, rfl⟩
  rw [← hR]
  have HR := Lib.hid hR
  have HV := Lib.hid hv
  have HL := Lib.hid hl
  have HC := Lib.hid hc
  have hlm := Kd.C_max hl
  clear hR hv hl hc
  have hmf : ∀ (fn : Fn) (first cap : Array Value) (w : World), (Instr.makeFunc fn first cap).run Tryd.prog w = .ok (.func fn first cap) w := fun _ _ _ _ => rfl
  go_enter_defers Tryd.func14, Tryd.ntmps14
  go_wp2_with fail
  have hB3 : Below w.heap.size w (((w.alloc (.cells #[.slice A0 v.rooms.length c0, .slice A1 v.trails.length c1, .slice A2 v.arrivals.length c2] 26)).alloc (.cells #[.int .i64 0] 3)).alloc (.cells #[.int .i64 0] 30)) := ((((Below.refl _ w).alloc (Nat.le_refl _) _).alloc (by simp) _).alloc (by simp; omega) _)
  refine (errorOf_any v A0 A1 A2 c0 c1 c2 place minute _ (HV.out.below hB3)).mono ?_
  rintro e X ⟨c', rfl, hb, hc'⟩
  obtain rfl := errOf_inj hc' HC.out
  clear hc'
  have hbx : X.heap[w.heap.size]? = some (.cells #[.slice A0 v.rooms.length c0, .slice A1 v.trails.length c1, .slice A2 v.arrivals.length c2] 26 (0, 0)) := (hb.block _ (by simp; omega)).trans (heap_old _ _ (heap_old _ _ (heap_new' w _ _ rfl)))
  have hpx : X.heap[w.heap.size + 1]? = some (.cells #[.int .i64 0] 3 (0, 0)) := (hb.block _ (by simp)).trans (heap_old _ _ (heap_new' _ _ _ (by simp)))
  have hex : X.heap[w.heap.size + 2]? = some (.cells #[.int .i64 0] 30 (0, 0)) := (hb.block _ (by simp)).trans (heap_new' _ _ _ (by simp))
  have hBX : Below w.heap.size w X := hB3.trans (hb.mono (by simp; omega))
  have hszX : w.heap.size + 3 ≤ X.heap.size := by have := hb.size; simp at this; omega
  have HBX := Lib.hid hBX
  have HPX := Lib.hid hpx
  have HEX := Lib.hid hex
  have HBXX := Lib.hid hbx
  have hpc : X.cell? ⟨w.heap.size + 1, 0, none⟩ = some (.int .i64 0) := cell_of_heap hpx 0 _ rfl
  have hec : X.cell? ⟨w.heap.size + 2, 0, none⟩ = some (.int .i64 0) := cell_of_heap hex 0 _ rfl
  have hpf : X.frozen? ⟨w.heap.size + 1, 0, none⟩ = false := by simp [World.frozen?, hpx]
  have hef : X.frozen? ⟨w.heap.size + 2, 0, none⟩ = false := by simp [World.frozen?, hex]
  have hb0 : X.cell? ⟨w.heap.size, 0, none⟩ = some (.slice A0 v.rooms.length c0) := cell_of_heap hbx 0 _ rfl
  have hb1 : X.cell? ⟨w.heap.size, 1, none⟩ = some (.slice A1 v.trails.length c1) := cell_of_heap hbx 1 _ rfl
  have hb2 : X.cell? ⟨w.heap.size, 2, none⟩ = some (.slice A2 v.arrivals.length c2) := cell_of_heap hbx 2 _ rfl
  clear hB3 hb hBX hpx hex hbx
  by_cases h0 : c' = 0
  · subst h0
    by_cases hlong : 256 < l.length
    · have hgt : (256 : Int) < (l.length : Int) := by omega
      go_wp2_with fail
      have q1 := set_one HPX.out (.int .i64 0)
      have q2 := set_one ((Below.heap_setCell X ⟨w.heap.size + 1, 0, none⟩ (.int .i64 0) (w.heap.size + 2) (by simp)).trans HEX.out) (.int .i64 3)
      have q3 := (Below.heap_setCell (X.setCell ⟨w.heap.size + 1, 0, none⟩ (.int .i64 0)) ⟨w.heap.size + 2, 0, none⟩ (.int .i64 3) (w.heap.size + 1) (by simp)).trans q1
      refine see_ret0 R _ (w.heap.size + 1) (w.heap.size + 2) 0 0 3 _ rfl rfl rfl (cell_of_heap q3 0 _ rfl) (cell_of_heap q2 0 _ rfl) ?_
      rw [HR.out]
      exact ⟨(0, 0, 3), rfl, (HBX.out.setCell (by simp) _).setCell (by simp; omega) _, 0, HC.out, .inr (.inl ⟨rfl, hlong, rfl⟩)⟩
    · have hgt : ¬ (256 : Int) < (l.length : Int) := by omega
      go_wp2_with fail
      obtain ⟨hok, hpm⟩ := errOf_zero HC.out
      refine (newDay_any v A0 A1 A2 c0 c1 c2 _ (HV.out.below HBX.out) hok).mono ?_
      rintro e Y ⟨d, tb, cb, rfl, hday, hbY, hge⟩
      unfold ptr
      have hBY : Below w.heap.size w Y := HBX.out.trans (hbY.mono HBX.out.size)
      have HBY := Lib.hid hBY
      have HDY := Lib.hid hday
      have HPY := Lib.hid ((hbY.block _ (by omega)).trans HPX.out)
      have HEY := Lib.hid ((hbY.block _ (by omega)).trans HEX.out)
      have HXY := Lib.hid ((hbY.block _ (by omega)).trans HBXX.out)
      have HOK := Lib.hid hok
      clear hday hbY hBY hok hpc hec hpf hef hb0 hb1 hb2
      go_wp2_with fail
      obtain ⟨hg0, hg1, hg2⟩ := hge
      have hszY : w.heap.size + 3 ≤ Y.heap.size := by have := HBY.out.size; have hl := (Array.getElem?_eq_some_iff.1 HEY.out).1; omega
      have hdn := HDY.out.ne
      have HN0 := Lib.hid (rfl : seeF v l place minute = days v l place minute 61 0 0 (List.replicate v.rooms.length 0) (arr0 v.arrivals) 0)
      have hll : l.length ≤ 256 := by omega
      obtain ⟨nr, hnr⟩ : ∃ n, v.rooms.length = n := ⟨_, rfl⟩
      obtain ⟨nt, hnt⟩ : ∃ n, v.trails.length = n := ⟨_, rfl⟩
      obtain ⟨ll, hll'⟩ : ∃ n, l.length = n := ⟨_, rfl⟩
      have hn8 := HOK.out.n8
      have hn1 := HOK.out.n1
      have ht16 := HOK.out.t16
      rw [hnr] at hn8 hn1 hpm HDY
      rw [hnt] at ht16 HDY
      rw [hll'] at hll hl3 hlm hgt
      rw [hnr, hnt, hll']
      rw [hnr, hnt] at HXY
      have HNR := Lib.hid hnr
      have HNT := Lib.hid hnt
      have HLL := Lib.hid hll'
      have hr0 := HV.out.r0
      have hr1 := HV.out.r1
      have hl0 := HL.out
      rw [hnr] at hr0
      rw [hnt] at hr1
      rw [hll'] at hl0
      have hA0 : ∀ ad, A0 = some ad → ad.block < w.heap.size := by
        obtain ⟨ad, e, hc⟩ := Kd.at_int hr0 0 (by omega) (by omega)
        intro ad' e'
        rw [e] at e'
        injection e' with e'
        subst e'
        have := World.block_lt_of_cell? w _ hc
        rwa [add_block'] at this
      have HR0 := Lib.hid hr0
      have HR1 := Lib.hid hr1
      have HL0 := Lib.hid hl0
      have HA0 := Lib.hid hA0
      clear hnr hnt hll' hr0 hr1 hl0 hA0
      have hmm := @run_makeMap Tryd.prog
      go_loopg [9, 30] 61 (fun g v9 v30 X => ∃ (t i : Nat) (th : List Int) (co : Stand → Int) (seen : Int), g + t = 61 ∧ v9 = .int .i64 (i : Int) ∧ v30 = .int .i64 (t : Int) ∧ i ≤ ll ∧ DayOk v i th co ∧ DayAt X d tb cb (.slice A0 nr c0) (.slice A1 nt c1) (.slice A2 v.arrivals.length c2) nr th co ∧ X.heap[w.heap.size + 1]? = some (.cells #[.int .i64 seen] 3 (0, 0)) ∧ X.heap[w.heap.size + 2]? = some (.cells #[.int .i64 0] 30 (0, 0)) ∧ Fr (fun k => k = tb ∨ k = cb ∨ k = w.heap.size + 1) Y X ∧ days v l place minute (61 - t) (t : Int) i th co seen = seeF v l place minute)
      case atStart =>
        refine ⟨0, 0, List.replicate v.rooms.length 0, arr0 v.arrivals, 0, rfl, rfl, rfl, by omega, DayOk.start v HOK.out, ?_, HPY.out, HEY.out, Fr.refl _ _, HN0.out.symm⟩
        rw [HNR.out]
        exact HDY.out
      case round =>
        obtain ⟨t, i, th, co, seen, hgt', rfl, rfl, hil, hdo, hD, hP, hE, hF, hdays⟩ := hrel
        have HDO := Lib.hid hdo
        have HD := Lib.hid hD
        have HP := Lib.hid hP
        have HE := Lib.hid hE
        have HF := Lib.hid hF
        have HDAYS := Lib.hid hdays
        clear hdo hD hP hE hF hdays
        by_cases ht : t < 61
        · have htI : (t : Int) < 61 := by omega
          have hbel : Below w.heap.size w wr := HBY.out.trans (HF.out.below HBY.out.size (by intro k hk; omega))
          have HBEL := Lib.hid hbel
          clear hbel
          go_wp2_with fail
          refine (begin_any d tb cb nr A0 c0 _ _ v.rooms th co (t : Int) wr HD.out ⟨hn8, hn1⟩ (Kd.C_below HR0.out HBEL.out) (fun ad e => by have := HA0.out ad e; omega) (fun p h0 h1 => by have := HDO.out.th p h0 (by rw [HNR.out]; exact h1); omega) (fun s => by have := HDO.out.co s; omega) (fun p h0 h1 => HOK.out.room p h0 (by rw [HNR.out]; exact h1))).mono ?_
          rintro e X1 ⟨rfl, hD1, hF1⟩
          have HD1 := Lib.hid hD1
          have HF1 := Lib.hid hF1
          have HP1 := Lib.hid (hF1.heap HP.out (by omega))
          have HE1 := Lib.hid (hF1.heap HE.out (by omega))
          have hbel1 : Below w.heap.size w X1 := HBEL.out.trans (hF1.below HBEL.out.size (by intro k hk; omega))
          have HBEL1 := Lib.hid hbel1
          clear hD1 hF1 hbel1
          go_upto_if 38 with fail
          go_cut [] from 38 to 51 (fun X => X.heap[w.heap.size + 1]? = some (.cells #[.int .i64 (if (t : Int) = minute then min (rd (nextTh v.rooms th co (t : Int) nr) place) (rd v.rooms place) else seen)] 3 (0, 0)) ∧ Fr (fun k => k = w.heap.size + 1) X1 X)
          case first =>
            by_cases hnow : (t : Int) = minute
            · have hnb : ((t : Int) == minute) = true := by simp [hnow]
              have HNOW := Lib.hid hnow
              clear hnow
              obtain ⟨hpl0, hpl1, _⟩ := hpm
              have hlen1 := HD1.out.len
              obtain ⟨xv, hxv⟩ : ∃ x, rd (nextTh v.rooms th co (t : Int) nr) place = x := ⟨_, rfl⟩
              obtain ⟨yv, hyv⟩ : ∃ y, rd v.rooms place = y := ⟨_, rfl⟩
              have d3 : X1.cell? ⟨d, 3, none⟩ = some (.slice (some ⟨tb, 0, none⟩) nr nr) := cell_of_heap HD1.out.day 3 _ rfl
              have tc : X1.cell? ⟨tb, place.toNat, none⟩ = some (.int .i64 xv) := by
                refine cell_of_heap HD1.out.there _ _ ?_
                have hpt : place.toNat < (nextTh v.rooms th co (t : Int) nr).length := by omega
                rw [← hxv]
                simp [rd, hpt]
              have hb0 : X1.cell? ⟨w.heap.size, 0, none⟩ = some (.slice A0 nr c0) := by
                have h := cell_of_heap HXY.out 0 _ rfl
                exact HF1.out.cell (HF.out.cell h (by simp <;> omega)) (by simp <;> omega)
              obtain ⟨ar, hA0', hcr⟩ := Kd.at_int HR0.out place hpl0 hpl1
              subst hA0'
              replace hcr := (World.cell?_of_block (HBEL1.out.block _ (World.block_lt_of_cell? w _ hcr))).trans hcr
              rw [hyv] at hcr
              have hpc : X1.cell? ⟨w.heap.size + 1, 0, none⟩ = some (.int .i64 seen) := cell_of_heap HP1.out 0 _ rfl
              have hpf : X1.frozen? ⟨w.heap.size + 1, 0, none⟩ = false := by simp [World.frozen?, HP1.out]
              have HXV := Lib.hid hxv
              have HYV := Lib.hid hyv
              clear hxv hyv hlen1
              go_wp2_with fail
              go_region
              all_goals go_wp2_with fail
              all_goals
                go_meet
                rw [if_pos HNOW.out, HXV.out, HYV.out]
                refine ⟨?_, (Fr.setCell (S := fun k => k = w.heap.size + 1) ((Fr.refl _ X1).drew) (p := ⟨w.heap.size + 1, 0, none⟩) rfl _)⟩
                first
                | (rw [show min xv yv = yv by omega]; exact set_one HP1.out (.int .i64 yv))
                | (rw [show min xv yv = xv by omega]; exact set_one HP1.out (.int .i64 xv))
            · have hnb : ((t : Int) == minute) = false := by simp [hnow]
              go_wp2_with fail
              go_meet
              rw [if_neg hnow]
              exact ⟨HP1.out, Fr.refl _ _⟩
          case rest =>
            obtain ⟨hP2, hF2⟩ := hcut
            have HP2 := Lib.hid hP2
            have HF2 := Lib.hid hF2
            have HE2 := Lib.hid (hF2.heap HE1.out (by omega))
            have HD2 := Lib.hid (HD1.out.fr hF2 (by omega) (by omega) (by omega))
            clear hP2 hF2
            have hbel2 : Below w.heap.size w wc := HBEL1.out.trans (HF2.out.below HBEL1.out.size (by intro k hk; omega))
            have HBEL2 := Lib.hid hbel2
            clear hbel2
            obtain ⟨ob, hob⟩ : ∃ ob, ob = wc.heap.size := ⟨_, rfl⟩
            have hobd := (Array.getElem?_eq_some_iff.1 HD2.out.day).1
            have hobt := (Array.getElem?_eq_some_iff.1 HD2.out.there).1
            have hobc : cb < wc.heap.size := by obtain ⟨f, hm, _⟩ := HD2.out.map; exact hm.lt
            have hobe := (Array.getElem?_eq_some_iff.1 HE2.out).1
            have hobw : w.heap.size ≤ wc.heap.size := HBEL2.out.size
            have hlob : d ≠ ob ∧ tb ≠ ob ∧ cb ≠ ob ∧ w.heap.size + 1 ≠ ob ∧ w.heap.size + 2 ≠ ob ∧ w.heap.size ≤ ob ∧ w.heap.size ≠ ob := by omega
            go_wp2_with fail
            rw [← hob]
            have HOB := Lib.hid hob
            clear hob
            go_loopg [9] (ll - i) (fun g2 v9 X => ∃ (j : Nat) (s : St) (f : Int → Option Value), g2 = ll - j ∧ v9 = .int .i64 (j : Int) ∧ j ≤ ll ∧ DayOk v j s.th s.co ∧ (∀ k, 0 ≤ s.out k ∧ s.out k ≤ 1000) ∧ DayAt X d tb cb (.slice A0 nr c0) (.slice A1 nt c1) (.slice A2 v.arrivals.length c2) nr s.th s.co ∧ MapFn iv X ob f ∧ (∀ k, (f k).getD (.int .i64 0) = .int .i64 (s.out k)) ∧ Fr (fun k => k = tb ∨ k = cb ∨ k = ob) (wc.alloc (.map #[] 0)) X ∧ steps v l (t : Int) (ll - j) j s = steps v l (t : Int) (ll - i) i ⟨nextTh v.rooms th co (t : Int) nr, co, fun _ => 0⟩)
            case atStart =>
              refine ⟨i, ⟨nextTh v.rooms th co (t : Int) nr, co, fun _ => 0⟩, fun _ => none, rfl, rfl, hil, ?_, fun k => ⟨by simp, by simp⟩, HD2.out.fr ((Fr.refl (fun _ => False) _).alloc _) (fun h => h) (fun h => h) (fun h => h), ?_, fun k => rfl, Fr.refl _ _, rfl⟩
              · have h := HDO.out.begin HOK.out (t : Int)
                rw [HNR.out] at h
                exact h
              · rw [HOB.out]
                exact MapFn.new _
            case round =>
              obtain ⟨j, s, f, hgj, rfl, hjl, hdj, hout, hD, hMF, hfo, hF, hst⟩ := hrel
              have hobl : ob < wr.heap.size := hMF.lt
              have HDJ := Lib.hid hdj
              have HOUT := Lib.hid hout
              have HD3 := Lib.hid hD
              have HMF := Lib.hid hMF
              have HFO := Lib.hid hfo
              have HFF : Hid (Fr (fun k => k = tb ∨ k = cb ∨ k = ob) wc wr) := Lib.hid (((Fr.refl _ wc).alloc (.map #[] 0)).trans hF)
              have HST := Lib.hid hst
              have HFA := Lib.hid hF
              clear hdj hout hD hMF hfo hF hst
              have hbel3 : Below w.heap.size w wr := HBEL2.out.trans (HFF.out.below HBEL2.out.size (by intro k hk; omega))
              have HBEL3 := Lib.hid hbel3
              have HP3 := Lib.hid (HFF.out.heap HP2.out (by omega))
              have HE3 := Lib.hid (HFF.out.heap HE2.out (by omega))
              have hdl3 : d < wr.heap.size := (Array.getElem?_eq_some_iff.1 HD3.out.day).1
              have hwl3 : w.heap.size + 2 < wr.heap.size := (Array.getElem?_eq_some_iff.1 HE3.out).1
              have hw03 : w.heap.size < wr.heap.size := by omega
              have HDIE : Hid (∀ (e : Int) (tm : Array Value) (W : World), tm[8]? = some (.pointer (some ⟨w.heap.size + 1, 0, none⟩)) → tm[9]? = some (.int .i64 (j : Int)) → tm[10]? = some (.pointer (some ⟨w.heap.size + 1 + 1, 0, none⟩)) → Fr (fun k => k = tb ∨ k = cb ∨ k = ob) wr W → steps v l (t : Int) (ll - j) j s = .bad j e →
                  bodyPostD Tryd.prog Tryd.f14 R (Exit.panic [{ v := misfit e, recovered := false }]) ⟨tm, [{ target := Target.fn (Fn.func 31) #[.pointer (some ⟨w.heap.size + 1, 0, none⟩), .pointer (some ⟨w.heap.size + 1 + 1, 0, none⟩)], args := #[] }]⟩ W) := by
                refine Lib.hid ?_
                intro e tm W h8 h9 h10 hFW hbad
                refine see_dies R tm (w.heap.size + 1) (w.heap.size + 1 + 1) j e _ 0 W (by omega) h8 h9 h10 (hFW.heap HP3.out (by omega)) (hFW.heap HE3.out (by omega)) ?_
                intro X' hX'
                rw [HR.out]
                have hbW : Below w.heap.size w X' := (HBEL3.out.trans (hFW.below HBEL3.out.size (by intro k hk; omega))).trans (hX'.below (by have := HBEL3.out.size; have := hFW.size; omega) (by intro k hk; omega))
                refine ⟨(0, (j : Int), e), rfl, hbW, 0, HC.out, .inr (.inr ⟨rfl, by rw [HLL.out]; exact hll, ?_⟩)⟩
                rw [← HDAYS.out, show 61 - t = (61 - (t + 1)) + 1 by omega]
                refine (days_bad ?_).symm
                rw [HLL.out, HNR.out, ← HST.out]
                exact hbad
              clear hbel3
              by_cases hj : j < ll
              · have hjI : (j : Int) < (ll : Int) := by omega
                obtain ⟨ad, hA3', q0, q1, q2⟩ := at_T56 HL0.out (j : Int) (by omega) (by omega)
                subst hA3'
                have hmv : ∀ a u, w.cell? a = some u → wr.cell? a = some u := fun a u ha => (World.cell?_of_block (HBEL3.out.block _ (World.block_lt_of_cell? w a ha))).trans ha
                replace q0 := hmv _ _ q0
                replace q1 := hmv _ _ q1
                replace q2 := hmv _ _ q2
                simp only [Int.toNat_natCast] at q0 q1 q2
                obtain ⟨m, hm⟩ : ∃ m, rd_T56 l (j : Int) = m := ⟨_, rfl⟩
                rw [hm] at q0 q1 q2
                obtain ⟨m0, m1, m2⟩ := m
                have HM := Lib.hid hm
                have hb1 : wr.cell? ⟨w.heap.size, 1, none⟩ = some (.slice A1 nt c1) := by
                  have h := cell_of_heap HXY.out 1 _ rfl
                  exact HFF.out.cell (HF2.out.cell (HF1.out.cell (HF.out.cell h (by simp <;> omega)) (by simp <;> omega)) (by simp <;> omega)) (by simp <;> omega)
                have hF4 : Fr (fun k => k = tb ∨ k = cb ∨ k = ob) wr (wr.alloc (.cells #[.int .i64 m0, .int .i64 m1, .int .i64 m2] 56)) := (Fr.refl _ wr).alloc _
                have HF4 := Lib.hid hF4
                clear hm hmv hF4
                by_cases g1 : 0 ≤ m1 ∧ m1 ≤ (nt : Int) - 1
                · by_cases g2 : 1 ≤ m2 ∧ m2 ≤ 1000
                  · by_cases g3 : 0 ≤ m0 ∧ m0 ≤ 60
                    · go_wp2_with fail
                      refine (within_yes m1 0 _ _ g1).mono ?_
                      rintro e w' ⟨rfl, rfl⟩
                      go_wp2_with fail
                      refine (within_yes m2 1 1000 _ g2).mono ?_
                      rintro e w' ⟨rfl, rfl⟩
                      go_wp2_with fail
                      refine (isMinute_yes m0 _ g3).mono ?_
                      rintro e w' ⟨rfl, rfl⟩
                      go_wp2_with fail
                      refine (need_yes 1 _).mono ?_
                      rintro e w' ⟨rfl, rfl⟩
                      go_wp2_with fail
                      have hgood : goodMove v ⟨m0, m1, m2⟩ := ⟨⟨g1.1, by rw [HNT.out]; show m1 < (nt : Int); omega⟩, g2, g3⟩
                      have hstp : steps v l (t : Int) (ll - j) j s = if m0 < (t : Int) then .bad j 7 else if (t : Int) < m0 then .ok j s else if (rd_T51 v.trails m1).f3 < s.out m1 + m2 then .bad j 9 else if rd s.th (rd_T51 v.trails m1).f0 < m2 then .bad j 10 else steps v l (t : Int) (ll - (j + 1)) (j + 1) (s.next v ⟨m0, m1, m2⟩) := by
                        rw [show ll - j = (ll - (j + 1)) + 1 by omega, steps, HM.out, if_pos hgood]
                      have HSTP := Lib.hid hstp
                      have HGOOD := Lib.hid hgood
                      clear hstp hgood
                      by_cases k1 : (t : Int) ≤ m0
                      · go_wp2_with fail
                        rw [show decide ((t : Int) ≤ m0) = true from decide_eq_true (by omega)]
                        refine (need_yes 7 _).mono ?_
                        rintro e w' ⟨rfl, rfl⟩
                        by_cases k2 : (t : Int) < m0
                        · go_wp2_with fail
                          go_roundg (61 - (t + 1))
                          case measure => omega
                          case rel =>
                            have hok : steps v l (t : Int) (l.length - i) i ⟨nextTh v.rooms th co (t : Int) v.rooms.length, co, fun _ => 0⟩ = .ok j s := by
                              rw [HLL.out, HNR.out, ← HST.out]
                              rw [HSTP.out, if_neg (by omega), if_pos k2]
                            have hFa : Fr (fun k => k = tb ∨ k = cb ∨ k = ob) wc (wr.alloc (.cells #[.int .i64 m0, .int .i64 m1, .int .i64 m2] 56)) := HFF.out.trans HF4.out
                            refine ⟨t + 1, j, s.th, s.co, _, by omega, rfl, by go_num, hjl, HDJ.out, HD3.out.fr ((Fr.refl (fun _ => False) wr).alloc _) (fun h => h) (fun h => h) (fun h => h), hFa.heap HP2.out (by omega), hFa.heap HE2.out (by omega), ?_, ?_⟩
                            · exact ((HF.out.trans (HF1.out.mono (fun k _ h => .inl h))).trans (HF2.out.mono (fun k _ h => .inr (.inr h)))).then hFa (fun k hk h => by rcases h with h | h | h <;> first | exact .inl (by omega) | (have h2 := HOB.out; have h3 := HBY.out.size; have h4 := HF.out.size; have h5 := HF1.out.size; have h6 := HF2.out.size; exact .inr (by omega)))
                            · have h := days_ok (place := place) (minute := minute) (g := 61 - (t + 1)) (seen := seen) hok
                              rw [show 61 - (t + 1) + 1 = 61 - t by omega, HDAYS.out, HNR.out] at h
                              exact h.symm
                        · have hlk : Sem.run Tryd.prog (Instr.lookup 69 (Value.map (some ob)) (Value.int IntKind.i64 m1) false) (wr.alloc (.cells #[.int .i64 m0, .int .i64 m1, .int .i64 m2] 56)) = Result.ok (.int .i64 (s.out m1)) (wr.alloc (.cells #[.int .i64 m0, .int .i64 m1, .int .i64 m2] 56)) := by
                            have h := MapFn.look (t := 69) key3 Tryd.underlying69 (zero3 _) (HMF.out.alloc (.cells #[.int .i64 m0, .int .i64 m1, .int .i64 m2] 56)) m1 false
                            rw [HFO.out m1] at h
                            exact h
                          go_wp2_with fail
                          have hx := HOK.out.trail m1 g1.1 (by rw [HNT.out]; omega)
                          have hA1 : ∀ ad', A1 = some ad' → ad'.block < w.heap.size := by
                            obtain ⟨a1, e, hc, _⟩ := at_T51 HR1.out m1 g1.1 (by omega)
                            intro ad' e'
                            rw [e] at e'
                            injection e' with e'
                            subst e'
                            have := World.block_lt_of_cell? w _ hc
                            rwa [add_block'] at this
                          have hDw : DayAt (wr.alloc (.cells #[.int .i64 m0, .int .i64 m1, .int .i64 m2] 56)) d tb cb (.slice A0 nr c0) (.slice A1 nt c1) (.slice A2 v.arrivals.length c2) nr s.th s.co := HD3.out.fr ((Fr.refl (fun _ => False) wr).alloc _) (fun h => h) (fun h => h) (fun h => h)
                          refine (move_any d tb cb nr nt A1 c1 (.slice A0 nr c0) (.slice A2 v.arrivals.length c2) v.trails s.th s.co m0 m1 m2 (s.out m1) _ hDw (Kd.C_below HR1.out (HBEL3.out.trans (HF4.out.below HBEL3.out.size (by intro k hk; omega)))) ⟨_, _, _, rfl⟩ ⟨_, _, _, rfl⟩ (fun ad' e => by have := hA1 ad' e; omega) ⟨g1.1, by omega⟩ ⟨hx.1.1, by rw [← HNR.out]; exact hx.1.2, hx.2.2.2.1.1, hx.2.2.2.1.2⟩ (fun p h0 h1 => by have := HDJ.out.th p h0 (by rw [HNR.out]; exact h1); omega) (fun s' => by have := HDJ.out.co s'; omega) g3 g2 ⟨(HOUT.out m1).1, by have := (HOUT.out m1).2; omega⟩).mono ?_
                          rintro e W5 hmv
                          rcases hmv with ⟨n1, rfl, hF5⟩ | ⟨n1, n2, rfl, hF5⟩ | ⟨n1, n2, rfl, hD5, hF5⟩
                          · exact HDIE.out 9 _ _ rfl rfl rfl (HF4.out.trans (hF5.mono (fun k _ h => h.elim))) (by rw [HSTP.out, if_neg (by omega), if_neg (by omega), if_pos (by omega)])
                          · exact HDIE.out 10 _ _ rfl rfl rfl (HF4.out.trans (hF5.mono (fun k _ h => h.elim))) (by rw [HSTP.out, if_neg (by omega), if_neg (by omega), if_neg (by omega), if_pos n2])
                          · have hbx5 : W5.heap[wr.heap.size]? = some (.cells #[.int .i64 m0, .int .i64 m1, .int .i64 m2] 56 (0, 0)) := hF5.heap (heap_new' _ _ _ rfl) (by obtain ⟨f', hm', _⟩ := HD3.out.map; have := hm'.lt; have := (Array.getElem?_eq_some_iff.1 HD3.out.there).1; omega)
                            have e1 : W5.cell? ⟨wr.heap.size, 1, none⟩ = some (.int .i64 m1) := cell_of_heap hbx5 1 _ rfl
                            have e2 : W5.cell? ⟨wr.heap.size, 2, none⟩ = some (.int .i64 m2) := cell_of_heap hbx5 2 _ rfl
                            have hm5 : MapFn iv W5 ob f := (HMF.out.alloc _).fr hF5 (by omega)
                            have hlk5 : Sem.run Tryd.prog (Instr.lookup 69 (Value.map (some ob)) (Value.int IntKind.i64 m1) false) W5 = Result.ok (.int .i64 (s.out m1)) W5 := by
                              have h := MapFn.look (t := 69) key3 Tryd.underlying69 (zero3 _) hm5 m1 false
                              rw [HFO.out m1] at h
                              exact h
                            have hob1 := HOUT.out m1
                            have hsm : IntKind.i64.wrap (s.out m1 + m2) = s.out m1 + m2 := IntWalk.i64_in _ (by omega)
                            obtain ⟨W7, hrun7, hm7, hg7, hs7⟩ := MapFn.update (t := 69) key3 Tryd.underlying69 hm5 m1 (.int .i64 (s.out m1 + m2))
                            replace hrun7 : Sem.run Tryd.prog (Instr.mapUpdate 69 (Value.map (some ob)) (Value.int IntKind.i64 m1) (Value.int .i64 (s.out m1 + m2))) W5 = Result.ok () W7 := hrun7
                            have HF5 := Lib.hid hF5
                            have HD5 := Lib.hid hD5
                            have HM7 := Lib.hid hm7
                            have HG7 := Lib.hid hg7
                            have HN1 := Lib.hid n1
                            have HN2 := Lib.hid n2
                            have HX := Lib.hid hx
                            have hi63 : IntKind.i64.wrap ((j : Int) + 1) = (j : Int) + 1 := IntWalk.i64_in _ (by omega)
                            clear hF5 hD5 hm7 hg7 hbx5 hm5 hlk n1 n2 hx hA1 hDw hs7
                            go_wp2_with fail
                            go_roundg (ll - (j + 1))
                            case measure => omega
                            case rel =>
                              have hF7 : Fr (fun k => k = ob) W5 W7 := (Fr.refl _ W5).grown HG7.out (fun k e => .inl (by injection e with e; exact e.symm))
                              refine ⟨j + 1, s.next v ⟨m0, m1, m2⟩, _, by omega, by go_num, by omega, HDJ.out.next HOK.out HGOOD.out HN2.out, fun k => ?_, HD5.out.fr hF7 (by omega) (by omega) (by omega), HM7.out, fun k => ?_, ?_, ?_⟩
                              · have h1 := HOUT.out k
                                have h2 := HN1.out
                                have h3 := HX.out.2.2.2.2.2
                                simp only [St.next, bump]
                                split
                                · rename_i e
                                  subst e
                                  omega
                                · omega
                              · simp only [St.next, bump, upd]
                                by_cases e : k = m1
                                · subst e
                                  simp
                                · simp [e, HFO.out k]
                              · exact ((HFA.out.trans HF4.out).trans (HF5.out.mono (fun k _ h => by rcases h with h | h <;> simp [h]))).trans (hF7.mono (fun k _ h => by simp [h]))
                              · rw [← HST.out, HSTP.out, if_neg (by omega), if_neg (by omega), if_neg (by have := HN1.out; omega), if_neg (by have := HN2.out; omega)]
                      · go_wp2_with fail
                        rw [show decide ((t : Int) ≤ m0) = false from decide_eq_false (by omega)]
                        refine (need_no 7 _).mono ?_
                        rintro e w' ⟨rfl, rfl⟩
                        exact HDIE.out 7 _ _ rfl rfl rfl HF4.out (by rw [HSTP.out, if_pos (by omega)])
                    · have hbad : steps v l (t : Int) (ll - j) j s = .bad j 1 := by
                        rw [show ll - j = (ll - (j + 1)) + 1 by omega, steps, HM.out, if_neg (fun h => g3 h.2.2)]
                      have HBAD := Lib.hid hbad
                      clear hbad
                      go_wp2_with fail
                      refine (within_yes m1 0 _ _ g1).mono ?_
                      rintro e w' ⟨rfl, rfl⟩
                      go_wp2_with fail
                      refine (within_yes m2 1 1000 _ g2).mono ?_
                      rintro e w' ⟨rfl, rfl⟩
                      go_wp2_with fail
                      refine (isMinute_no m0 _ g3).mono ?_
                      rintro e w' ⟨rfl, rfl⟩
                      go_wp2_with fail
                      refine (need_no 1 _).mono ?_
                      rintro e w' ⟨rfl, rfl⟩
                      exact HDIE.out 1 _ _ rfl rfl rfl HF4.out HBAD.out
                  · have hbad : steps v l (t : Int) (ll - j) j s = .bad j 1 := by
                      rw [show ll - j = (ll - (j + 1)) + 1 by omega, steps, HM.out, if_neg (fun h => g2 h.2.1)]
                    have HBAD := Lib.hid hbad
                    clear hbad
                    go_wp2_with fail
                    refine (within_yes m1 0 _ _ g1).mono ?_
                    rintro e w' ⟨rfl, rfl⟩
                    go_wp2_with fail
                    refine (within_no m2 1 1000 _ g2).mono ?_
                    rintro e w' ⟨rfl, rfl⟩
                    go_wp2_with fail
                    refine (need_no 1 _).mono ?_
                    rintro e w' ⟨rfl, rfl⟩
                    exact HDIE.out 1 _ _ rfl rfl rfl HF4.out HBAD.out
                · have hbad : steps v l (t : Int) (ll - j) j s = .bad j 1 := by
                    rw [show ll - j = (ll - (j + 1)) + 1 by omega, steps, HM.out, if_neg (fun h => g1 (by have h' := h.1; rw [HNT.out] at h'; simp at h'; omega))]
                  have HBAD := Lib.hid hbad
                  clear hbad
                  go_wp2_with fail
                  refine (within_no m1 0 _ _ g1).mono ?_
                  rintro e w' ⟨rfl, rfl⟩
                  go_wp2_with fail
                  refine (need_no 1 _).mono ?_
                  rintro e w' ⟨rfl, rfl⟩
                  exact HDIE.out 1 _ _ rfl rfl rfl HF4.out HBAD.out
              · have hjI : ¬ (j : Int) < (ll : Int) := by omega
                go_wp2_with fail
                go_roundg (61 - (t + 1))
                case measure => omega
                case rel =>
                  have hok : steps v l (t : Int) (l.length - i) i ⟨nextTh v.rooms th co (t : Int) v.rooms.length, co, fun _ => 0⟩ = .ok j s := by
                    rw [HLL.out, HNR.out, ← HST.out]
                    rw [show ll - j = 0 by omega, steps]
                  have hFa : Fr (fun k => k = tb ∨ k = cb ∨ k = ob) wc (wr) := HFF.out
                  refine ⟨t + 1, j, s.th, s.co, _, by omega, rfl, by go_num, hjl, HDJ.out, HD3.out, hFa.heap HP2.out (by omega), hFa.heap HE2.out (by omega), ?_, ?_⟩
                  · exact ((HF.out.trans (HF1.out.mono (fun k _ h => .inl h))).trans (HF2.out.mono (fun k _ h => .inr (.inr h)))).then hFa (fun k hk h => by rcases h with h | h | h <;> first | exact .inl (by omega) | (have h2 := HOB.out; have h3 := HBY.out.size; have h4 := HF.out.size; have h5 := HF1.out.size; have h6 := HF2.out.size; exact .inr (by omega)))
                  · have h := days_ok (place := place) (minute := minute) (g := 61 - (t + 1)) (seen := seen) hok
                    rw [show 61 - (t + 1) + 1 = 61 - t by omega, HDAYS.out, HNR.out] at h
                    exact h.symm
        · have htI : ¬ (t : Int) < 61 := by omega
          have hpc : wr.cell? ⟨w.heap.size + 1, 0, none⟩ = some (.int .i64 seen) := cell_of_heap HP.out 0 _ rfl
          have hpf : wr.frozen? ⟨w.heap.size + 1, 0, none⟩ = false := by simp [World.frozen?, HP.out]
          have hec : wr.cell? ⟨w.heap.size + 1 + 1, 0, none⟩ = some (.int .i64 0) := cell_of_heap HE.out 0 _ rfl
          have hef : wr.frozen? ⟨w.heap.size + 1 + 1, 0, none⟩ = false := by simp [World.frozen?, HE.out]
          go_wp2_with fail
          have q1 := set_one HP.out (.int .i64 seen)
          have q2 := set_one ((Below.heap_setCell wr ⟨w.heap.size + 1, 0, none⟩ (.int .i64 seen) (w.heap.size + 2) (by simp)).trans HE.out) (.int .i64 0)
          have q3 := (Below.heap_setCell (wr.setCell ⟨w.heap.size + 1, 0, none⟩ (.int .i64 seen)) ⟨w.heap.size + 2, 0, none⟩ (.int .i64 0) (w.heap.size + 1) (by simp)).trans q1
          refine see_ends R _ (w.heap.size + 1) (w.heap.size + 1 + 1) i seen 0 _ rfl rfl rfl (cell_of_heap q3 0 _ rfl) (cell_of_heap q2 0 _ rfl) ?_
          rw [HR.out]
          have hbel : Below w.heap.size w wr := HBY.out.trans (HF.out.below HBY.out.size (by intro k hk; omega))
          refine ⟨(seen, (i : Int), 0), rfl, (hbel.setCell (by simp) _).setCell (by simp; omega) _, 0, HC.out, .inr (.inr ⟨rfl, by rw [HLL.out]; exact hll, ?_⟩)⟩
          have h := HDAYS.out
          rw [show 61 - t = 0 by omega] at h
          exact h
  · have hcb : (c' != 0) = true := by simp [h0]
    go_wp2_with fail
    have q1 := set_one HPX.out (.int .i64 0)
    have q2 := set_one ((Below.heap_setCell X ⟨w.heap.size + 1, 0, none⟩ (.int .i64 0) (w.heap.size + 2) (by simp)).trans HEX.out) (.int .i64 c')
    have q3 := (Below.heap_setCell (X.setCell ⟨w.heap.size + 1, 0, none⟩ (.int .i64 0)) ⟨w.heap.size + 2, 0, none⟩ (.int .i64 c') (w.heap.size + 1) (by simp)).trans q1
    refine see_ret0 R _ (w.heap.size + 1) (w.heap.size + 2) 0 0 c' _ rfl rfl rfl (cell_of_heap q3 0 _ rfl) (cell_of_heap q2 0 _ rfl) ?_
    rw [HR.out]
    exact ⟨(0, 0, c'), rfl, (HBX.out.setCell (by simp) _).setCell (by simp; omega) _, c', HC.out, .inl ⟨h0, rfl⟩⟩
end Go.Proofs.YtnhcpflenajeaaaDoor
