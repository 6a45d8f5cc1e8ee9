/- A day: need, newDay, begin, move. -/
import Derived.Test.YtnhcpflenajeaaaDoorJNewNet
import Derived.WalkLawsBesides
import Derived.Deep.DeepCutAuto
import Derived.Deep.OwnRows
import Derived.Laws.CopyRow
import Derived.RegionDies
set_option linter.unusedVariables false
set_option linter.unusedSimpArgs false
namespace Go.Proofs.YtnhcpflenajeaaaDoor
open Go.RowKit Go.Proofs.YtnhcpflenajeaaaDoorW.PrintWords Go.Proofs.YtnhcpflenajeaaaDoorW.PrintMore PCrowdMost Mem

theorem need_yes (e : Int) (w : World) : Calls Tryd.prog 34 #[.bool true, .int .i64 e] w fun r w' => r = .returned (.tuple #[]) ∧ w' = w := by
  go_enter Tryd.func34, Tryd.ntmps34
  go_wp2
  go_end0
  exact ⟨rfl, rfl⟩
/-- The panic of a move that cannot be made. -/
def misfit (e : Int) : Value := .iface 61 (.agg #[.int .i64 e])
theorem need_no (e : Int) (w : World) : Calls Tryd.prog 34 #[.bool false, .int .i64 e] w fun r w' => r = .panicked [{ v := misfit e, recovered := false }] ∧ w' = w := by
  go_enter Tryd.func34, Tryd.ntmps34
  go_wp2
  exact ⟨rfl, rfl, rfl⟩

/-- A day in memory: the visit's slices, how many are where, and how many come. -/
structure DayAt (w : World) (d tb cb : Nat) (s0 s1 s2 : Value) (n : Nat) (th : List Int) (co : Stand → Int) : Prop where
  len : th.length = n
  day : w.heap[d]? = some (.cells #[s0, s1, s2, .slice (some ⟨tb, 0, none⟩) n n, .map (some cb)] 68 (0, 0))
  there : w.heap[tb]? = some (.cells (th.map fun x => Value.int .i64 x).toArray 3 (0, 0))
  map : ∃ f, MapFn sv w cb f ∧ ∀ s, (f s).getD (.int .i64 0) = .int .i64 (co s)

theorem madeCells_eq (n : Nat) : madeCells #[Value.int .i64 0] n = ((List.replicate n (0 : Int)).map fun x => Value.int .i64 x).toArray := by
  apply Array.ext
  · simp [madeCells]
  · intro i h1 h2
    simp [madeCells, Nat.mod_one]
theorem DayAt.fr {w w' : World} {S : Nat → Prop} {d tb cb n : Nat} {s0 s1 s2 : Value} {th : List Int} {co : Stand → Int} (h : DayAt w d tb cb s0 s1 s2 n th co) (hf : Fr S w w') (h1 : ¬ S d) (h2 : ¬ S tb) (h3 : ¬ S cb) : DayAt w' d tb cb s0 s1 s2 n th co := by
  obtain ⟨f, hm, hc⟩ := h.map
  exact ⟨h.len, hf.heap h.day h1, hf.heap h.there h2, f, hm.fr hf h3, hc⟩
theorem DayAt.ne {w : World} {d tb cb n : Nat} {s0 s1 s2 : Value} {th : List Int} {co : Stand → Int} (h : DayAt w d tb cb s0 s1 s2 n th co) : d ≠ tb ∧ d ≠ cb ∧ tb ≠ cb := by
  obtain ⟨f, ⟨es, c, hm, _⟩, _⟩ := h.map
  refine ⟨fun e => ?_, fun e => ?_, fun e => ?_⟩
  · have h1 := h.day; rw [e, h.there] at h1; simp at h1
  · have h1 := h.day; rw [e, hm] at h1; cases h1
  · have h1 := h.there; rw [e, hm] at h1; cases h1
/-- How many of the first arrivals come to a stand. -/
def arrN (l : List S49) : Nat → Stand → Int
  | 0, _ => 0
  | i + 1, s => arrN l i s + (if s = ⟨(rd_T49 l (i : Int)).f1, (rd_T49 l (i : Int)).f0⟩ then (rd_T49 l (i : Int)).f2 else 0)
def arr0 (l : List S49) (s : Stand) : Int := arrN l l.length s
theorem arrN_bd (v : Vis) (h : v.Ok) : ∀ (i : Nat), i ≤ v.arrivals.length → ∀ s, 0 ≤ arrN v.arrivals i s ∧ arrN v.arrivals i s ≤ 1000 * (i : Int)
  | 0, _, s => by simp [arrN]
  | i + 1, hi, s => by
    have ih := arrN_bd v h i (by omega) s
    have ha := h.arr (i : Int) (by omega) (by omega)
    simp only [arrN]
    split <;> omega

set_option maxRecDepth 100000 in
set_option maxHeartbeats 2000000 in
theorem newDay_any (v : Vis) (A0 A1 A2 : Option Addr) (c0 c1 c2 : Nat) (w : World) (hv : VisAt w v A0 A1 A2 c0 c1 c2) (hok : v.Ok) :
    Calls Tryd.prog 32 #[.agg #[.slice A0 v.rooms.length c0, .slice A1 v.trails.length c1, .slice A2 v.arrivals.length c2]] w fun e w' => ∃ d tb cb, e = .returned (ptr d) ∧
      DayAt w' d tb cb (.slice A0 v.rooms.length c0) (.slice A1 v.trails.length c1) (.slice A2 v.arrivals.length c2) v.rooms.length (List.replicate v.rooms.length 0) (arr0 v.arrivals) ∧ Below w.heap.size w w' ∧ (w.heap.size ≤ d ∧ w.heap.size ≤ tb ∧ w.heap.size ≤ cb) := by
  have hmm := @run_makeMap Tryd.prog
  obtain ⟨nr, hnr⟩ : ∃ n, v.rooms.length = n := ⟨_, rfl⟩
  obtain ⟨na, hna⟩ : ∃ n, v.arrivals.length = n := ⟨_, rfl⟩
  have hn8 := hok.n8
  have ha16 := hok.a16
  rw [hnr] at hn8 ⊢
  rw [hna] at ha16 ⊢
  have HV := Lib.hid hv
  have HOK := Lib.hid hok
  clear hv hok
  go_enter Tryd.func32, Tryd.ntmps32
  have hmk : ∀ W : World, (Instr.makeSlice 22 (.int .i64 (nr : Int)) (.int .i64 (nr : Int))).run Tryd.prog W = .ok (.slice (some ⟨W.heap.size, 0, none⟩) nr nr) (W.alloc (.cells (madeCells #[.int .i64 0] nr) 3)) := fun W =>
    run_make_row' 22 3 (.int .i64 0) 8 Tryd.underlying22 info3 rfl .i64 .i64 nr (by omega) (by omega) W
  have h0 : ∀ W : World, True := fun _ => trivial
  go_upto_region 1 with fail
  go_cut [3] (fun s3 X => ∃ d tb cb, s3 = .pointer (some ⟨d, 0, none⟩) ∧ DayAt X d tb cb (.slice A0 nr c0) (.slice A1 v.trails.length c1) (.slice A2 na c2) nr (List.replicate nr 0) (fun _ => 0) ∧ Below w.heap.size w X ∧ (w.heap.size < d ∧ w.heap.size < tb ∧ w.heap.size < cb) ∧ d ≠ cb ∧ X.heap[w.heap.size]? = some (.cells #[.slice A0 nr c0, .slice A1 v.trails.length c1, .slice A2 na c2] 26))
  case first =>
    have hz : 0 < w.heap.size + 1 := by omega
    go_region
    all_goals
      go_wp2_with fail
      go_meet
      rw [madeCells_eq]
      first
      | exact ⟨w.heap.size + 1 + 1 + 1, w.heap.size + 1, w.heap.size + 1 + 1, rfl, ⟨by simp, heap_new' _ _ _ (by simp), heap_old _ _ (heap_old _ _ (heap_new' _ _ _ (by simp))), _, MapFn.drew (MapFn.alloc (by have h := MapFn.new (enc := sv) ((w.alloc (Obj.cells #[Value.slice A0 nr c0, Value.slice A1 v.trails.length c1, Value.slice A2 na c2] 26)).alloc (Obj.cells ((List.replicate nr (0 : Int)).map fun x => Value.int .i64 x).toArray 3)); simpa only [World.size_alloc] using h) _), fun _ => rfl⟩, ((Fr.drew ((((((Fr.refl (fun _ => False) w).alloc _).alloc _).alloc _).alloc _))).below (Nat.le_refl _) (fun _ _ h => h)), by omega, by omega, heap_old _ _ (heap_old _ _ (heap_old _ _ (heap_new' w _ _ rfl)))⟩
      | exact ⟨w.heap.size + 1 + 1 + 1, w.heap.size + 1 + 1, w.heap.size + 1, rfl, ⟨by simp, heap_new' _ _ _ (by simp), heap_old _ _ (heap_new' _ _ _ (by simp)), _, MapFn.drew (MapFn.alloc (MapFn.alloc (by have h := MapFn.new (enc := sv) (w.alloc (Obj.cells #[Value.slice A0 nr c0, Value.slice A1 v.trails.length c1, Value.slice A2 na c2] 26)); simpa only [World.size_alloc] using h) _) _), fun _ => rfl⟩, ((Fr.drew ((((((Fr.refl (fun _ => False) w).alloc _).alloc _).alloc _).alloc _))).below (Nat.le_refl _) (fun _ _ h => h)), by omega, by omega, heap_old _ _ (heap_old _ _ (heap_old _ _ (heap_new' w _ _ rfl)))⟩
  case rest =>
    obtain ⟨d, tb, cb, rfl, hday, hbel, hge, hdc, hbx⟩ := hcut
    have HD0 := Lib.hid hday
    have HB := Lib.hid hbel
    have HBX := Lib.hid hbx
    clear hday hbel hbx hmk
    have x2 := cell_of_heap HBX.out 2 _ rfl
    go_wp2
    go_loopg [17] na (fun g v17 X => ∃ i : Nat, g + i = na ∧ v17 = .int .i64 (i : Int) ∧ DayAt X d tb cb (.slice A0 nr c0) (.slice A1 v.trails.length c1) (.slice A2 na c2) nr (List.replicate nr 0) (arrN v.arrivals i) ∧ Fr (fun k => k = cb) wc X)
    case atStart => exact ⟨0, rfl, rfl, HD0.out, Fr.refl _ _⟩
    case round =>
      obtain ⟨i, hgi, rfl, hD, hF⟩ := hrel
      have HD := Lib.hid hD
      have HF := Lib.hid hF
      have hdl : d < wr.heap.size := (Array.getElem?_eq_some_iff.1 hD.day).1
      have hcl : cb < wr.heap.size := by obtain ⟨f, hm, _⟩ := hD.map; exact hm.lt
      clear hD hF
      by_cases hin : i < na
      · obtain ⟨ad, hA2', q0, q1, q2⟩ := at_T49 HV.out.r2 (i : Int) (by omega) (by omega)
        subst hA2'
        have hmv : ∀ a u, w.cell? a = some u → wr.cell? a = some u := fun a u ha => by
          have hl := World.block_lt_of_cell? w a ha
          exact (World.cell?_of_block ((HF.out.block _ (by have := HB.out.size; omega) (by omega)).trans (HB.out.block _ hl))).trans ha
        replace q0 := hmv _ _ q0
        replace q1 := hmv _ _ q1
        replace q2 := hmv _ _ q2
        simp only [Int.toNat_natCast] at q0 q1 q2
        have htr := HOK.out.arr (i : Int) (by omega) (by omega)
        have hbd := fun s => arrN_bd v HOK.out i (by omega) s
        obtain ⟨x, hx⟩ : ∃ x, rd_T49 v.arrivals (i : Int) = x := ⟨_, rfl⟩
        rw [hx] at q0 q1 q2 htr
        obtain ⟨⟨h00, h01⟩, ⟨h10, h11⟩, ⟨h20, h21⟩⟩ := htr
        have HX := Lib.hid hx
        clear hx hmv
        obtain ⟨f, hmf, hcf⟩ := HD.out.map
        obtain ⟨co, hco⟩ : ∃ co, arrN v.arrivals i ⟨x.f1, x.f0⟩ = co := ⟨_, rfl⟩
        have hcob := hbd ⟨x.f1, x.f0⟩
        rw [hco] at hcob
        have hval := hcf ⟨x.f1, x.f0⟩
        rw [hco] at hval
        -- the map's three operations, in whatever order
        have hlook0 := MapFn.look (t := 66) key46 Tryd.underlying66 (zero3 _) (MapFn.drew (hmf.alloc (Obj.cells #[Value.int IntKind.i64 x.f0, Value.int IntKind.i64 x.f1, Value.int IntKind.i64 x.f2] 49))) ⟨x.f1, x.f0⟩ false
        obtain ⟨w4, st4, hrun4, hm4, hst4, hg4, hs4⟩ := MapFn.entry (t := 66) key46 Tryd.underlying66 (zero3 _) (MapFn.drew (hmf.alloc (Obj.cells #[Value.int IntKind.i64 x.f0, Value.int IntKind.i64 x.f1, Value.int IntKind.i64 x.f2] 49))) ⟨x.f1, x.f0⟩
        have hlook4 := MapFn.look (t := 66) key46 Tryd.underlying66 (zero3 _) hm4 ⟨x.f1, x.f0⟩ false
        obtain ⟨w6, hrun6, hm6, hg6, hs6⟩ := MapFn.store (t := 66) key46 hm4 hst4 (.int .i64 (co + x.f2))
        rw [hval] at hlook0 hrun4
        have e4 : ((upd f (⟨x.f1, x.f0⟩ : Stand) ((f ⟨x.f1, x.f0⟩).getD (.int .i64 0))) ⟨x.f1, x.f0⟩).getD (.int .i64 0) = .int .i64 co := by simp [upd]; exact hval
        rw [e4] at hlook4
        replace hlook0 : Sem.run Tryd.prog (Instr.lookup 66 (Value.map (some cb)) (Value.agg #[Value.int IntKind.i64 x.f1, Value.int IntKind.i64 x.f0]) false) (wr.alloc (Obj.cells #[Value.int IntKind.i64 x.f0, Value.int IntKind.i64 x.f1, Value.int IntKind.i64 x.f2] 49)).drew = Result.ok (.int .i64 co) (wr.alloc (Obj.cells #[Value.int IntKind.i64 x.f0, Value.int IntKind.i64 x.f1, Value.int IntKind.i64 x.f2] 49)).drew := hlook0
        replace hrun4 : Sem.run Tryd.prog (Instr.mapEntry 66 (Value.map (some cb)) (Value.agg #[Value.int IntKind.i64 x.f1, Value.int IntKind.i64 x.f0])) (wr.alloc (Obj.cells #[Value.int IntKind.i64 x.f0, Value.int IntKind.i64 x.f1, Value.int IntKind.i64 x.f2] 49)).drew = Result.ok (.tuple #[.int .i64 co, .int .i64 st4]) w4 := hrun4
        replace hlook4 : Sem.run Tryd.prog (Instr.lookup 66 (Value.map (some cb)) (Value.agg #[Value.int IntKind.i64 x.f1, Value.int IntKind.i64 x.f0]) false) w4 = Result.ok (.int .i64 co) w4 := hlook4
        replace hrun6 : Sem.run Tryd.prog (Instr.entryStore 66 (Value.map (some cb)) (.int .i64 st4) (Value.int IntKind.i64 (co + x.f2))) w4 = Result.ok () w6 := hrun6
        have hdm : wr.cell? ⟨d, 4, none⟩ = some (.map (some cb)) := cell_of_heap HD.out.day 4 _ rfl
        have r0 : (wr.alloc (.cells #[.int .i64 x.f0, .int .i64 x.f1, .int .i64 x.f2] 49)).cell? ⟨wr.heap.size, 0, none⟩ = some (.int .i64 x.f0) := cell_new' _ _ _ rfl rfl
        have r1 : (wr.alloc (.cells #[.int .i64 x.f0, .int .i64 x.f1, .int .i64 x.f2] 49)).cell? ⟨wr.heap.size, 1, none⟩ = some (.int .i64 x.f1) := cell_new' _ _ _ rfl rfl
        have r2 : (wr.alloc (.cells #[.int .i64 x.f0, .int .i64 x.f1, .int .i64 x.f2] 49)).cell? ⟨wr.heap.size, 2, none⟩ = some (.int .i64 x.f2) := cell_new' _ _ _ rfl rfl
        have rd : (wr.alloc (.cells #[.int .i64 x.f0, .int .i64 x.f1, .int .i64 x.f2] 49)).cell? ⟨d, 4, none⟩ = some (.map (some cb)) := cell_alloc' _ hdm
        have n1 : some wr.heap.size ≠ some cb := by intro e; injection e with e; omega
        have n2 : some d ≠ some cb := by intro e; injection e with e; omega
        have k0 := hg4.cell (cell_drew' r0) n1
        have k1 := hg4.cell (cell_drew' r1) n1
        have k2 := hg4.cell (cell_drew' r2) n1
        have kd := hg4.cell (cell_drew' rd) n2
        have j0 := hg6.cell k0 n1
        have j1 := hg6.cell k1 n1
        have j2 := hg6.cell k2 n1
        have jd := hg6.cell kd n2
        have HM6 := Lib.hid hm6
        have HG4 := Lib.hid hg4
        have HG6 := Lib.hid hg6
        have HCF := Lib.hid hcf
        have HCO := Lib.hid hco
        have hi1 : i ≤ 16 := by omega
        have hwr : IntKind.i64.wrap (co + x.f2) = co + x.f2 := IntWalk.i64_in _ (by omega)
        clear hm4 hst4 hg4 hs4 hm6 hg6 hs6 hcf hmf hval e4 hbd n1 n2 hco
        go_wp2
        go_region_held3 (fun W => W.cell? ⟨wr.heap.size, 0, none⟩ = some (.int .i64 x.f0) ∧ W.cell? ⟨wr.heap.size, 1, none⟩ = some (.int .i64 x.f1) ∧ W.cell? ⟨wr.heap.size, 2, none⟩ = some (.int .i64 x.f2) ∧ W.cell? ⟨d, 4, none⟩ = some (.map (some cb)))
          (first | exact ⟨r0, r1, r2, rd⟩ | exact ⟨k0, k1, k2, kd⟩ | exact ⟨j0, j1, j2, jd⟩ | go_keep)
          (fail)
        all_goals
          go_wp2
          go_roundg (na - (i + 1))
          case measure => omega
          case rel =>
            have hne := HD.out.ne
            have hfr : Fr (fun k => k = cb) wr w6 := ((((Fr.refl _ wr).alloc _).drew).grown HG4.out (fun k e => .inl (by injection e with e; exact e.symm))).grown HG6.out (fun k e => .inl (by injection e with e; exact e.symm))
            refine ⟨i + 1, by omega, by go_num, ⟨HD.out.len, hfr.heap HD.out.day (fun e => hne.2.1 e), hfr.heap HD.out.there (fun e => hne.2.2 e), _, HM6.out, fun s => ?_⟩, HF.out.trans hfr⟩
            simp only [arrN, HX.out]
            by_cases hs : s = ⟨x.f1, x.f0⟩
            · subst hs
              simp [upd, HCO.out]
            · simp [upd, hs, HCF.out s]
      · have hie : i = na := by omega
        subst hie
        go_wp2
        refine bodyPost_ret (results_tmp rfl _ _ _) rfl ?_
        refine ⟨d, tb, cb, rfl, ?_, HB.out.trans (HF.out.below HB.out.size (fun k hk e => by omega)), by omega⟩
        unfold arr0
        rw [hna]
        exact HD.out
end Go.Proofs.YtnhcpflenajeaaaDoor

/- A day begins a minute. -/
set_option linter.unusedVariables false
set_option linter.unusedSimpArgs false
namespace Go.Proofs.YtnhcpflenajeaaaDoor
open Go.RowKit Go.Proofs.YtnhcpflenajeaaaDoorW.PrintWords Go.Proofs.YtnhcpflenajeaaaDoorW.PrintMore PCrowdMost Mem

theorem add_block' (a : Addr) (n : Nat) : (a.add n).block = a.block := by unfold Addr.add; split <;> rfl
/-- Who is where when the minute has begun. -/
def nextAt (rooms th : List Int) (co : Stand → Int) (t : Int) (p : Nat) : Int := min (rd th (p : Int)) (rd rooms (p : Int)) + co ⟨(p : Int), t⟩
def nextTh (rooms th : List Int) (co : Stand → Int) (t : Int) (n : Nat) : List Int := (List.range n).map (nextAt rooms th co t)
/-- While it begins: the first p places are new. -/
def midTh (rooms th : List Int) (co : Stand → Int) (t : Int) (p n : Nat) : List Int := (List.range n).map fun i => if i < p then nextAt rooms th co t i else rd th (i : Int)

theorem arm_copy {w : World} {ops : Array Oper} {rest : List Oper} {o : Oper} {a : Act} {Q : Exit → Act → World → Prop} (hgd : o.guard = none) (x y : Operand) (hop : o.op = Op.call { callee := Callee.builtin Builtin.copy, args := #[x, y], argTypes := #[22, 22] })
    (g tb n c1 c2 : Nat) (cur cs : Array Value) (hx : a.eval x = .slice (some ⟨g, 0, none⟩) n c1) (hy : a.eval y = .slice (some ⟨tb, 0, none⟩) n c2) (hg : w.heap[g]? = some (.cells cur 3 (0, 0))) (hcur : cur.size = n)
    (hs : w.heap[tb]? = some (.cells cs 3 (0, 0))) (hcs : cs.size = n) (h1 : ∀ v ∈ cs, v.oneCell' = true)
    (hK : ∀ w', w'.heap[g]? = some (.cells cs 3 (0, 0)) → Fr (fun k => k = g) w w' → w'.heap.size = w.heap.size → wpList Tryd.prog ops Q rest (a.put o.dst (.int .i64 (n : Int))) w') : wpList Tryd.prog ops Q (o :: rest) a w := by
  refine wpList_plain hgd fun K1 hK1 => ?_
  have hi : (Tryd.prog.info? 3).map (·.size) = some 1 := by kernel_rfl
  have hrun := run_copy_row (P := Tryd.prog) w 22 22 o.type 3 g 0 n c1 ⟨tb, 0, none⟩ n c2 cur 3 cs.toList Tryd.underlying22 hi hg (by simp [hcs]) (fun j v hj => by
    rw [add_plain]
    exact cell_of_heap hs j v (by simpa using hj)) (by simp [hcs, hcur]) (fun v hv => h1 v (by simpa using hv))
  have hlt := (Array.getElem?_eq_some_iff.1 hg).1
  have hrow : (cur.toList.take 0 ++ cs.toList ++ cur.toList.drop (0 + cs.toList.length)).toArray = cs := by
    simp [hcs, List.drop_of_length_le (show cur.toList.length ≤ n by simp [hcur])]
  rw [hrow] at hrun
  unfold Oper.wp
  unfold execOp
  simp only [hop, resolve, invoke, builtin, Sem.run_bind, Sem.run_pure, Result.andThen_ok, List.map_toArray, List.map_cons, List.map_nil, hx, hy, hrun]
  simp only [Array.length_toList, hcs]
  refine hK1 _ _ (hK _ ?_ ⟨rfl, rfl, rfl, by simp [World.setRow], fun k hk hne => ?_⟩ (by simp [World.setRow]))
  · show (w.heap.modify g _)[g]? = _
    obtain ⟨_, hE⟩ := Array.getElem?_eq_some_iff.1 hg
    rw [Array.getElem?_eq_getElem (by rw [Array.size_modify]; exact hlt), Array.getElem_modify_self, hE]
  · show (w.heap.modify g _)[k]? = _
    rw [Array.getElem?_modify]
    simp [Ne.symm hne]

set_option maxRecDepth 100000 in
set_option maxHeartbeats 2000000 in
theorem begin_any (d tb cb n : Nat) (A0 : Option Addr) (c0 : Nat) (s1 s2 : Value) (rooms th : List Int) (co : Stand → Int) (t : Int) (w : World) (h : DayAt w d tb cb (.slice A0 n c0) s1 s2 n th co) (hn : n ≤ 8 ∧ 1 ≤ n) (hr : Kd.C (Kd.int .i64) w A0 n rooms)
    (hA : ∀ ad, A0 = some ad → ad.block ≠ tb) (hth : ∀ i : Int, 0 ≤ i → i < n → 0 ≤ rd th i ∧ rd th i ≤ 1000000000) (hco : ∀ s, 0 ≤ co s ∧ co s ≤ 1000000000) (hrm : ∀ i : Int, 0 ≤ i → i < n → 0 ≤ rd rooms i ∧ rd rooms i ≤ 1000) :
    Calls Tryd.prog 33 #[.pointer (some ⟨d, 0, none⟩), .int .i64 t] w fun e w' => e = .returned (.tuple #[]) ∧ DayAt w' d tb cb (.slice A0 n c0) s1 s2 n (nextTh rooms th co t n) co ∧ Fr (fun k => k = tb) w w' := by
  have HD := Lib.hid h
  have HR := Lib.hid hr
  have hday := h.day
  have hlen := h.len
  have d0 := cell_of_heap hday 0 _ rfl
  have d3 := cell_of_heap hday 3 _ rfl
  have d4 := cell_of_heap hday 4 _ rfl
  have hdl := (Array.getElem?_eq_some_iff.1 hday).1
  have htl := (Array.getElem?_eq_some_iff.1 h.there).1
  have hmk : ∀ W : World, (Instr.makeSlice 22 (.int .i64 (n : Int)) (.int .i64 (n : Int))).run Tryd.prog W = .ok (.slice (some ⟨W.heap.size, 0, none⟩) n n) (W.alloc (.cells (madeCells #[.int .i64 0] n) 3)) := fun W =>
    run_make_row' 22 3 (.int .i64 0) 8 Tryd.underlying22 info3 rfl .i64 .i64 n (by omega) (by omega) W
  clear hday h hr
  go_enter Tryd.func33, Tryd.ntmps33
  go_wp2_with (first | (refine arm_copy rfl _ _ rfl w.heap.size tb n n n _ _ rfl rfl (heap_new' w _ _ rfl) (size_madeCells _ _) (heap_old _ _ HD.out.there) (by simp [hlen]) (by simp [Value.oneCell']) ?_; intro W1 hw1 hf1 hs1; have HW1 := Lib.hid hw1; have HF1 := Lib.hid hf1; have HS1 := Lib.hid hs1; clear hw1 hf1 hs1))
  have hFw : Fr (fun _ => False) w W1 := by
    have h := (((Fr.refl (fun _ => False) w).alloc (Obj.cells (madeCells #[Value.int IntKind.i64 0] n) 3)).then HF1.out (fun k hk e => .inr (by omega)))
    exact h
  have hm0 : midTh rooms th co t 0 n = th := by
    apply List.ext_getElem
    · simp [midTh, hlen]
    · intro i h1 h2
      simp [midTh, rd, h2]
  go_loopg [21] n (fun g v21 X => ∃ p : Nat, g + p = n ∧ v21 = .int .i64 (p : Int) ∧ DayAt X d tb cb (.slice A0 n c0) s1 s2 n (midTh rooms th co t p n) co ∧ X.heap[w.heap.size]? = some (.cells (th.map fun x => Value.int .i64 x).toArray 3 (0, 0)) ∧ Fr (fun k => k = tb) w X)
  case atStart => exact ⟨0, rfl, rfl, by rw [hm0]; exact HD.out.fr hFw (fun h => h) (fun h => h) (fun h => h), HW1.out, hFw.mono (fun _ _ h => h.elim)⟩
  case round =>
    obtain ⟨p, hgp, rfl, hD, hW, hF⟩ := hrel
    have HDX := Lib.hid hD
    have HWX := Lib.hid hW
    have HFX := Lib.hid hF
    have hdl2 : d < wr.heap.size := (Array.getElem?_eq_some_iff.1 hD.day).1
    have htl2 : tb < wr.heap.size := (Array.getElem?_eq_some_iff.1 hD.there).1
    have e0 := cell_of_heap hD.day 0 _ rfl
    have e3 := cell_of_heap hD.day 3 _ rfl
    have e4 := cell_of_heap hD.day 4 _ rfl
    by_cases hpn : p < n
    · obtain ⟨ad, hA0', hc⟩ := Kd.at_int HR.out (p : Int) (by omega) (by omega)
      subst hA0'
      have hcr : wr.cell? (ad.add p) = some (.int .i64 (rd rooms (p : Int))) := by
        have hl := World.block_lt_of_cell? w _ hc
        simp only [Int.toNat_natCast] at hc hl
        exact hF.cell hc (by rw [add_block']; exact hA ad rfl)
      have hwt : wr.cell? ⟨w.heap.size, p, none⟩ = some (.int .i64 (rd th (p : Int))) := by
        refine cell_of_heap hW p _ ?_
        have hpt : p < th.length := by omega
        simp [rd, hpt]
      have htp := hth (p : Int) (by omega) (by omega)
      have hcp := hco ⟨(p : Int), t⟩
      have hrp := hrm (p : Int) (by omega) (by omega)
      obtain ⟨x, hx⟩ : ∃ x, rd th (p : Int) = x := ⟨_, rfl⟩
      obtain ⟨y, hy⟩ : ∃ y, rd rooms (p : Int) = y := ⟨_, rfl⟩
      obtain ⟨z, hz⟩ : ∃ z, co ⟨(p : Int), t⟩ = z := ⟨_, rfl⟩
      have hnx : nextAt rooms th co t p = min x y + z := by unfold nextAt; rw [hx, hy, hz]
      rw [hx] at hwt htp
      rw [hy] at hcr hrp
      rw [hz] at hcp
      obtain ⟨f, hmf, hcf⟩ := hD.map
      have hval := hcf ⟨(p : Int), t⟩
      rw [hz] at hval
      have hlook := MapFn.look (t := 66) key46 Tryd.underlying66 (zero3 _) (MapFn.drew hmf) ⟨(p : Int), t⟩ false
      rw [hval] at hlook
      replace hlook : Sem.run Tryd.prog (Instr.lookup 66 (Value.map (some cb)) (Value.agg #[Value.int IntKind.i64 (p : Int), Value.int IntKind.i64 t]) false) wr.drew = Result.ok (.int .i64 z) wr.drew := hlook
      have htc : wr.cell? ⟨tb, p, none⟩ = some (.int .i64 x) := by
        refine cell_of_heap hD.there p _ ?_
        have hpt : p < (midTh rooms th co t p n).length := by simp [midTh]; exact hpn
        simp [midTh, hpn, hx]
      have htz : wr.frozen? ⟨tb, p, none⟩ = false := by simp [World.frozen?, hD.there]
      have HNX := Lib.hid hnx
      have HX := Lib.hid hx
      have hne := hD.ne
      have hs : ∀ u, (wr.setCell ⟨tb, p, none⟩ u).drew.cell? ⟨d, 0, none⟩ = some (.slice (some ad) n c0) ∧ (wr.setCell ⟨tb, p, none⟩ u).drew.cell? ⟨d, 3, none⟩ = some (.slice (some ⟨tb, 0, none⟩) n n) ∧ (wr.setCell ⟨tb, p, none⟩ u).drew.cell? ⟨d, 4, none⟩ = some (.map (some cb)) ∧ (wr.setCell ⟨tb, p, none⟩ u).drew.cell? (ad.add p) = some (.int .i64 y) := by
        intro u
        have hf : Fr (fun k => k = tb) wr (wr.setCell ⟨tb, p, none⟩ u) := Fr.setCell (S := fun k => k = tb) (Fr.refl _ wr) (p := ⟨tb, p, none⟩) rfl u
        exact ⟨hf.cell e0 hne.1, hf.cell e3 hne.1, hf.cell e4 hne.1, hf.cell hcr (by rw [add_block']; exact hA ad rfl)⟩
      have w3 : IntKind.i64.wrap ((if y < x then y else x) + z) = min x y + z := by
        rw [show (if y < x then y else x) = min x y by split <;> omega]
        exact IntWalk.i64_in _ (by omega)
      clear hD hW hF hmf hcf hval hc hnx hx hy hz
      go_wp2
      go_region_held3 (fun W => W.cell? ⟨d, 0, none⟩ = some (.slice (some ad) n c0) ∧ W.cell? ⟨d, 3, none⟩ = some (.slice (some ⟨tb, 0, none⟩) n n) ∧ W.cell? ⟨d, 4, none⟩ = some (.map (some cb)) ∧ W.cell? (ad.add p) = some (.int .i64 y))
        (first | exact ⟨e0, e3, e4, hcr⟩ | exact hs _ | go_keep)
        (fail)
      all_goals go_wp2
      all_goals
        go_roundg (n - (p + 1))
        case measure => omega
        case rel =>
          have hf : ∀ u, Fr (fun k => k = tb) wr (wr.setCell ⟨tb, p, none⟩ u).drew := fun u => (Fr.setCell (S := fun k => k = tb) (Fr.refl _ wr) (p := ⟨tb, p, none⟩) rfl u).drew
          obtain ⟨f, hm, hc⟩ := HDX.out.map
          have hmid : (midTh rooms th co t (p + 1) n) = (midTh rooms th co t p n).set p (min x y + z) := by
            apply List.ext_getElem
            · simp [midTh]
            · intro i h1 h2
              simp only [midTh, List.length_map, List.length_range] at h1
              rw [List.getElem_set]
              by_cases hi : p = i
              · subst hi; simp [midTh, HNX.out]
              · simp only [midTh, List.getElem_map, List.getElem_range, hi, if_false]
                by_cases h3 : i < p
                · rw [if_pos (by omega), if_pos h3]
                · rw [if_neg (by omega), if_neg h3]
          refine ⟨p + 1, by omega, by go_num, ⟨by simp [midTh], (hf _).heap HDX.out.day hne.1, ?_, f, hm.fr (hf _) (fun e => hne.2.2 e.symm), hc⟩, (hf _).heap HWX.out (by omega), HFX.out.trans (hf _)⟩
          rw [hmid]
          have h0 := HDX.out.there
          obtain ⟨hlt, hE⟩ := Array.getElem?_eq_some_iff.1 h0
          show (wr.heap.modify tb _)[tb]? = _
          rw [Array.getElem?_eq_getElem (by rw [Array.size_modify]; exact hlt), Array.getElem_modify_self, hE]
          simp [List.map_set]
    · have hpe : p = n := by omega
      subst hpe
      go_wp2
      first
      | go_end0
      | refine bodyPost_ret (results_none rfl _ _ _) rfl ?_
      refine ⟨rfl, ?_, HFX.out⟩
      have e : midTh rooms th co t p p = nextTh rooms th co t p := by
        apply List.ext_getElem
        · simp [midTh, nextTh]
        · intro i h1 h2
          simp only [midTh, List.length_map, List.length_range] at h1
          simp [midTh, nextTh, h1]
      rw [← e]
      exact HDX.out
end Go.Proofs.YtnhcpflenajeaaaDoor

/- A move. -/
set_option linter.unusedVariables false
set_option linter.unusedSimpArgs false
namespace Go.Proofs.YtnhcpflenajeaaaDoor
open Go.RowKit Go.Proofs.YtnhcpflenajeaaaDoorW.PrintWords Go.Proofs.YtnhcpflenajeaaaDoorW.PrintMore PCrowdMost Mem

def addAt (co : Stand → Int) (s : Stand) (k : Int) : Stand → Int := fun x => if x = s then co x + k else co x
/-- How a move ends. -/
def MovePost (w : World) (d tb cb n : Nat) (s0 s1 s2 : Value) (th : List Int) (co : Stand → Int) (x : S51) (mm mp ahead : Int) (e : Ending) (w' : World) : Prop :=
  (ahead + mp > x.f3 ∧ e = .panicked [{ v := misfit 9, recovered := false }] ∧ Fr (fun _ => False) w w') ∨
  (ahead + mp ≤ x.f3 ∧ rd th x.f0 < mp ∧ e = .panicked [{ v := misfit 10, recovered := false }] ∧ Fr (fun _ => False) w w') ∨
  (ahead + mp ≤ x.f3 ∧ mp ≤ rd th x.f0 ∧ e = .returned (.tuple #[]) ∧ DayAt w' d tb cb s0 s1 s2 n (th.set x.f0.toNat (rd th x.f0 - mp)) (addAt co ⟨x.f1, mm + x.f2⟩ mp) ∧ Fr (fun k => k = tb ∨ k = cb) w w')

set_option maxRecDepth 100000 in
set_option maxHeartbeats 4000000 in
theorem move_any (d tb cb n nt : Nat) (A1 : Option Addr) (c1 : Nat) (s0 s2 : Value) (trails : List S51) (th : List Int) (co : Stand → Int) (mm mt mp ahead : Int) (w : World) (h : DayAt w d tb cb s0 (.slice A1 nt c1) s2 n th co)
    (hr : Kd.C k51 w A1 nt trails) (hs0 : ∃ a b c, s0 = .slice a b c) (hs2 : ∃ a b c, s2 = .slice a b c) (hA : ∀ ad, A1 = some ad → ad.block ≠ tb ∧ ad.block ≠ cb) (hmt : 0 ≤ mt ∧ mt < nt) (hx : 0 ≤ (rd_T51 trails mt).f0 ∧ (rd_T51 trails mt).f0 < n ∧ 1 ≤ (rd_T51 trails mt).f2 ∧ (rd_T51 trails mt).f2 ≤ 60)
    (hth : ∀ i : Int, 0 ≤ i → i < n → 0 ≤ rd th i ∧ rd th i ≤ 1000000000) (hco : ∀ s, 0 ≤ co s ∧ co s ≤ 1000000000) (hmm : 0 ≤ mm ∧ mm ≤ 60) (hmp : 1 ≤ mp ∧ mp ≤ 1000) (hah : 0 ≤ ahead ∧ ahead ≤ 1000000) :
    Calls Tryd.prog 37 #[.pointer (some ⟨d, 0, none⟩), .agg #[.int .i64 mm, .int .i64 mt, .int .i64 mp], .int .i64 ahead] w (MovePost w d tb cb n s0 (.slice A1 nt c1) s2 th co (rd_T51 trails mt) mm mp ahead) := by
  obtain ⟨a0, b0, g0, rfl⟩ := hs0
  obtain ⟨a2, b2, g2, rfl⟩ := hs2
  have HD := Lib.hid h
  have hday := h.day
  have hlen := h.len
  have hne := h.ne
  have dA1 : w.cell? ⟨d, 1, none⟩ = some (.slice A1 nt c1) := cell_of_heap hday 1 _ rfl
  have dT : w.cell? ⟨d, 3, none⟩ = some (.slice (some ⟨tb, 0, none⟩) n n) := cell_of_heap hday 3 _ rfl
  have dM : w.cell? ⟨d, 4, none⟩ = some (.map (some cb)) := cell_of_heap hday 4 _ rfl
  have hdl := (Array.getElem?_eq_some_iff.1 hday).1
  have htl := (Array.getElem?_eq_some_iff.1 h.there).1
  obtain ⟨ad, hA1', q0, q1, q2, q3⟩ := at_T51 hr mt (by omega) (by omega)
  subst hA1'
  have hal : (ad.add (mt.toNat * 4)).block < w.heap.size := World.block_lt_of_cell? w _ q0
  have hal1 : (ad.add (mt.toNat * 4)).block < w.heap.size + 1 := by omega
  obtain ⟨x, hxx⟩ : ∃ x, rd_T51 trails mt = x := ⟨_, rfl⟩
  rw [hxx] at q0 q1 q2 q3 hx ⊢
  have hfx := hth x.f0 hx.1 hx.2.1
  have htc : w.cell? ⟨tb, x.f0.toNat, none⟩ = some (.int .i64 (rd th x.f0)) := by
    refine cell_of_heap h.there _ _ ?_
    have hpt : x.f0.toNat < th.length := by omega
    simp [rd, hpt]
  obtain ⟨y, hy⟩ : ∃ y, rd th x.f0 = y := ⟨_, rfl⟩
  rw [hy] at htc hfx
  have HY := Lib.hid hy
  obtain ⟨x0, x1, x2, x3⟩ := x
  simp only at *
  obtain ⟨R, hR⟩ : ∃ R, R = MovePost w d tb cb n (.slice a0 b0 g0) (.slice (some ad) nt c1) (.slice a2 b2 g2) th co ⟨x0, x1, x2, x3⟩ mm mp ahead := ⟨_, rfl⟩
  rw [← hR]
  have HR := Lib.hid hR
  clear hday h hr hR
  go_enter Tryd.func37, Tryd.ntmps37
  go_upto_region 1 with fail
  go_cut [6] (fun s6 X => ∃ b6, s6 = .pointer (some ⟨b6, 0, none⟩) ∧ X.heap[b6]? = some (.cells #[.int .i64 x0, .int .i64 x1, .int .i64 x2, .int .i64 x3] 51) ∧ X.heap[w.heap.size]? = some (.cells #[.int .i64 mm, .int .i64 mt, .int .i64 mp] 56) ∧ w.heap.size < b6 ∧ Fr (fun _ => False) w X)
  case first =>
    go_region
    all_goals
      go_wp2_with fail
      go_meet
      exact ⟨w.heap.size + 1, rfl, heap_new' _ _ _ (by simp), heap_old _ _ (heap_new' w _ _ rfl), by omega, (((Fr.refl _ w).alloc _).alloc _).drew⟩
  case rest =>
    obtain ⟨b6, rfl, hb6, hbx, hlt6, hF⟩ := hcut
    have HF := Lib.hid hF
    have HB6 := Lib.hid hb6
    have HBX := Lib.hid hbx
    have m0 : wc.cell? ⟨b6, 0, none⟩ = some (.int .i64 x0) := cell_of_heap hb6 0 _ rfl
    have m1 : wc.cell? ⟨b6, 1, none⟩ = some (.int .i64 x1) := cell_of_heap hb6 1 _ rfl
    have m2 : wc.cell? ⟨b6, 2, none⟩ = some (.int .i64 x2) := cell_of_heap hb6 2 _ rfl
    have m3 : wc.cell? ⟨b6, 3, none⟩ = some (.int .i64 x3) := cell_of_heap hb6 3 _ rfl
    have v0 : wc.cell? ⟨w.heap.size, 0, none⟩ = some (.int .i64 mm) := cell_of_heap hbx 0 _ rfl
    have v1 : wc.cell? ⟨w.heap.size, 1, none⟩ = some (.int .i64 mt) := cell_of_heap hbx 1 _ rfl
    have v2 : wc.cell? ⟨w.heap.size, 2, none⟩ = some (.int .i64 mp) := cell_of_heap hbx 2 _ rfl
    have dT' := hF.cell dT (fun h => h)
    have dM' := hF.cell dM (fun h => h)
    have tc' := hF.cell htc (fun h => h)
    have hdl' : d < wc.heap.size := by have := hF.size; omega
    have htl' : tb < wc.heap.size := by have := hF.size; omega
    clear hb6 hbx hF dA1 dT dM htc q0 q1 q2 q3 hal hal1
    have hsum : IntKind.i64.wrap (ahead + mp) = ahead + mp := IntWalk.i64_in _ (by omega)
    by_cases h1 : ahead + mp ≤ x3
    · have h1b : decide (ahead + mp ≤ x3) = true := by simp [h1]
      by_cases h2 : mp ≤ y
      · go_upto_region 3 with (first | (go_at_call 34; refine (need_yes _ _).mono ?_; rintro e w' ⟨rfl, rfl⟩))
        go_quiet ((go_at_call 34; exact Calls.quiet_of_same (need_yes _ _)))
        have htz : w'.frozen? ⟨tb, x0.toNat, none⟩ = false := by
          have h := HF.out.heap HD.out.there (fun h => h)
          simp [World.frozen?, h]
        have hsub : IntKind.i64.wrap (y - mp) = y - mp := IntWalk.i64_in _ (by omega)
        go_upto_region 4 with fail
        go_region
        go_wp2_with fail
        obtain ⟨W5, hW5⟩ : ∃ W, W = (w'.drewN (nq + 1)).setCell ⟨tb, x0.toNat, none⟩ (.int .i64 (y - mp)) := ⟨_, rfl⟩
        have hF5 : Fr (fun k => k = tb) w' W5 := by rw [hW5]; exact Fr.setCell (S := fun k => k = tb) ((Fr.refl _ w').drewN _) (p := ⟨tb, x0.toNat, none⟩) rfl _
        have hxl : x0.toNat < th.length := by omega
        have hD5 : DayAt W5 d tb cb (.slice a0 b0 g0) (.slice (some ad) nt c1) (.slice a2 b2 g2) n (th.set x0.toNat (y - mp)) co := by
          have hDw := HD.out.fr HF.out (fun h => h) (fun h => h) (fun h => h)
          obtain ⟨f, hm, hc⟩ := hDw.map
          refine ⟨by simp [hlen], hF5.heap hDw.day hne.1, ?_, f, hm.fr hF5 (fun e => hne.2.2 e.symm), hc⟩
          have h0 : (w'.drewN (nq + 1)).heap[tb]? = _ := hDw.there
          obtain ⟨hlt, hE⟩ := Array.getElem?_eq_some_iff.1 h0
          rw [hW5]
          show ((w'.drewN (nq + 1)).heap.modify tb _)[tb]? = _
          rw [Array.getElem?_eq_getElem (by rw [Array.size_modify]; exact hlt), Array.getElem_modify_self, hE]
          simp [List.map_set]
        rw [← hW5]
        clear hW5
        have hb6t : b6 ≠ tb := by omega
        have hwt : w.heap.size ≠ tb := by omega
        replace m0 := hF5.cell m0 hb6t
        replace m1 := hF5.cell m1 hb6t
        replace m2 := hF5.cell m2 hb6t
        replace v0 := hF5.cell v0 hwt
        replace v2 := hF5.cell v2 hwt
        replace dM' := hF5.cell dM' hne.1
        have hdl5 : d < W5.heap.size := Nat.lt_of_lt_of_le hdl' hF5.size
        clear m3 v1 dT' tc' htz hsub hb6t hwt
        obtain ⟨f, hmf, hcf⟩ := hD5.map
        have HF5 := Lib.hid hF5
        have HD5 := Lib.hid hD5
        clear hF5 hD5
        obtain ⟨cv, hcv⟩ : ∃ c, co ⟨x1, mm + x2⟩ = c := ⟨_, rfl⟩
        have hcob := hco ⟨x1, mm + x2⟩
        rw [hcv] at hcob
        have hval := hcf ⟨x1, mm + x2⟩
        rw [hcv] at hval
        have hcbl : cb < W5.heap.size := hmf.lt
        have hsum1 : IntKind.i64.wrap (mm + x2) = mm + x2 := IntWalk.i64_in _ (by omega)
        have hsum2 : IntKind.i64.wrap (cv + mp) = cv + mp := IntWalk.i64_in _ (by omega)
        have hlook0 := MapFn.look (t := 66) key46 Tryd.underlying66 (zero3 _) (MapFn.drew hmf) ⟨x1, mm + x2⟩ false
        obtain ⟨w4, st4, hrun4, hm4, hst4, hg4, hs4⟩ := MapFn.entry (t := 66) key46 Tryd.underlying66 (zero3 _) (MapFn.drew hmf) ⟨x1, mm + x2⟩
        have hlook4 := MapFn.look (t := 66) key46 Tryd.underlying66 (zero3 _) hm4 ⟨x1, mm + x2⟩ false
        obtain ⟨w6, hrun6, hm6, hg6, hs6⟩ := MapFn.store (t := 66) key46 hm4 hst4 (.int .i64 (cv + mp))
        rw [hval] at hlook0 hrun4
        have e4 : ((upd f (⟨x1, mm + x2⟩ : Stand) ((f ⟨x1, mm + x2⟩).getD (.int .i64 0))) ⟨x1, mm + x2⟩).getD (.int .i64 0) = .int .i64 cv := by simp [upd]; exact hval
        rw [e4] at hlook4
        replace hlook0 : Sem.run Tryd.prog (Instr.lookup 66 (Value.map (some cb)) (Value.agg #[Value.int IntKind.i64 x1, Value.int IntKind.i64 (mm + x2)]) false) W5.drew = Result.ok (.int .i64 cv) W5.drew := hlook0
        replace hrun4 : Sem.run Tryd.prog (Instr.mapEntry 66 (Value.map (some cb)) (Value.agg #[Value.int IntKind.i64 x1, Value.int IntKind.i64 (mm + x2)])) W5.drew = Result.ok (.tuple #[.int .i64 cv, .int .i64 st4]) w4 := hrun4
        replace hlook4 : Sem.run Tryd.prog (Instr.lookup 66 (Value.map (some cb)) (Value.agg #[Value.int IntKind.i64 x1, Value.int IntKind.i64 (mm + x2)]) false) w4 = Result.ok (.int .i64 cv) w4 := hlook4
        replace hrun6 : Sem.run Tryd.prog (Instr.entryStore 66 (Value.map (some cb)) (.int .i64 st4) (Value.int IntKind.i64 (cv + mp))) w4 = Result.ok () w6 := hrun6
        have n1 : some w.heap.size ≠ some cb := by intro e; injection e with e; have := HD.out.map; obtain ⟨_, hh, _⟩ := this; have := hh.lt; omega
        have n2 : some d ≠ some cb := by intro e; injection e with e; exact hne.2.1 e
        have n3 : some b6 ≠ some cb := by intro e; injection e with e; have := HD.out.map; obtain ⟨_, hh, _⟩ := this; have := hh.lt; omega
        have k0 := hg4.cell (cell_drew' m0) n3
        have k1 := hg4.cell (cell_drew' m1) n3
        have k2 := hg4.cell (cell_drew' m2) n3
        have k3 := hg4.cell (cell_drew' v0) n1
        have k4 := hg4.cell (cell_drew' v2) n1
        have kd := hg4.cell (cell_drew' dM') n2
        have j0 := hg6.cell k0 n3
        have j1 := hg6.cell k1 n3
        have j2 := hg6.cell k2 n3
        have j3 := hg6.cell k3 n1
        have j4 := hg6.cell k4 n1
        have jd := hg6.cell kd n2
        have HM6 := Lib.hid hm6
        have HG4 := Lib.hid hg4
        have HG6 := Lib.hid hg6
        have HCF := Lib.hid hcf
        have HCV := Lib.hid hcv
        clear hm4 hst4 hg4 hs4 hm6 hg6 hs6 hcf hmf hval e4 n1 n2 n3 hcv
        go_region_held3 (fun W => W.cell? ⟨b6, 0, none⟩ = some (.int .i64 x0) ∧ W.cell? ⟨b6, 1, none⟩ = some (.int .i64 x1) ∧ W.cell? ⟨b6, 2, none⟩ = some (.int .i64 x2) ∧ W.cell? ⟨w.heap.size, 0, none⟩ = some (.int .i64 mm) ∧ W.cell? ⟨w.heap.size, 2, none⟩ = some (.int .i64 mp) ∧ W.cell? ⟨d, 4, none⟩ = some (.map (some cb)))
          (first | exact ⟨m0, m1, m2, v0, v2, dM'⟩ | exact ⟨k0, k1, k2, k3, k4, kd⟩ | exact ⟨j0, j1, j2, j3, j4, jd⟩ | go_keep)
          (fail)
        all_goals go_wp2
        all_goals
          first
          | go_end0
          | refine bodyPost_ret (results_none rfl _ _ _) rfl ?_
          rw [HR.out]
          have hfr : Fr (fun k => k = cb) W5 w6 := (((Fr.refl _ W5).drew).grown HG4.out (fun k e => .inl (by injection e with e; exact e.symm))).grown HG6.out (fun k e => .inl (by injection e with e; exact e.symm))
          have hDn : DayAt w6 d tb cb (.slice a0 b0 g0) (.slice (some ad) nt c1) (.slice a2 b2 g2) n (th.set x0.toNat (y - mp)) (addAt co ⟨x1, mm + x2⟩ mp) := by
            refine ⟨HD5.out.len, hfr.heap HD5.out.day (fun e => hne.2.1 e), hfr.heap HD5.out.there (fun e => hne.2.2 e), _, HM6.out, fun s => ?_⟩
            unfold addAt
            by_cases hs : s = ⟨x1, mm + x2⟩
            · subst hs
              simp [upd, HCV.out]
            · simp [upd, hs, HCF.out s]
          refine .inr (.inr ⟨h1, by rw [HY.out]; exact h2, rfl, by rw [HY.out]; exact hDn, ?_⟩)
          exact ((HF.out.mono (fun _ _ h => h.elim)).trans (HF5.out.mono (fun k _ h => .inl h))).trans (hfr.mono (fun k _ h => .inr h))
      · have h2b : decide (mp ≤ y) = false := by simp; omega
        have h2c : y < mp := by omega
        have hpan : ∀ tm X, Fr (fun _ => False) w X → bodyPost Tryd.prog Tryd.f37 R (Exit.panic [{ v := misfit 10, recovered := false }]) ⟨tm, []⟩ X := by
          intro tm X hX
          refine ⟨rfl, ?_⟩
          rw [HR.out]
          exact .inr (.inl ⟨h1, by rw [HY.out]; exact h2c, rfl, hX⟩)
        go_upto_region 3 with (first | (go_at_call 34; refine (need_yes _ _).mono ?_; rintro e w' ⟨rfl, rfl⟩))
        have hpan0 : ∀ tm, bodyPost Tryd.prog Tryd.f37 R (Exit.panic [{ v := misfit 10, recovered := false }]) ⟨tm, []⟩ w'.drew := fun tm => hpan tm _ HF.out.drew
        go_region_dies
        all_goals
          go_at_call 34
          refine (need_no _ _).mono ?_
          rintro e w2 ⟨rfl, rfl⟩
          exact hpan _ _ HF.out.drew
    · go_wp2_with (first | (go_at_call 34; refine (need_no _ _).mono ?_; rintro e w' ⟨rfl, rfl⟩))
      refine ⟨rfl, ?_⟩
      rw [HR.out]
      exact .inl ⟨by omega, rfl, HF.out⟩
end Go.Proofs.YtnhcpflenajeaaaDoor
