/- What the listed variables give a walk: the two ends of the network. -/
import Derived.Test.YtnhcpflenajeaaaDoorJReach
import Derived.Test.YtnhcpflenajeaaaDoorRows
import Derived.ProofKit
import Derived.LaidMore
import Derived.OpenShut
import Derived.ChangeOld
import Derived.Below
import Derived.SizedLaws
import Derived.Stop.Joined
namespace Go.Proofs.YtnhcpflenajeaaaDoor
open Go.ChangeShapes Go.WideShapes Go.ChangeAt Go.RowKit
set_option linter.unusedVariables false

theorem own : ownKnob Tryd.prog.godebug = none := by kernel_rfl
theorem gSource : Tryd.prog.globalNamed "geyserite/crowd.source" = some 0 := by kernel_rfl
theorem gSink : Tryd.prog.globalNamed "geyserite/crowd.sink" = some 1 := by kernel_rfl
theorem tSource : (Tryd.prog.globals[0]?).map (·.type) = some 89 := by kernel_rfl
theorem tSink : (Tryd.prog.globals[1]?).map (·.type) = some 89 := by kernel_rfl
abbrev laid2 {H : Type} : List (String × DataW H) := [("geyserite/crowd.source", Rows.laid_geyserite_crowd_source), ("geyserite/crowd.sink", Rows.laid_geyserite_crowd_sink)]
theorem door_met (os : Os) (args : Array Value) : laidMetH Tryd.prog laid2 ((World.doorLaid Tryd.prog 400 os).forCall (fun _ _ => 0) ⟨#[], args, []⟩).memory :=
  laidMetH_of_parts3 (fuel := 8) (laidMet_of_run' 8 (by kernel_rfl) (by kernel_rfl)) (by kernel_rfl) (by kernel_rfl)
set_option maxRecDepth 100000 in
theorem laid_knot {W : World} {f : Nat} {cs : List Value} {a b c : Int} {p : List MemPlace} (h : DataW.trod (fun _ => ()) Tryd.prog W 0 (fun _ => true) false f 89 cs = some (.agg [.agg [.lit (.int .i64 a), .lit (.int .i64 b)], .lit (.int .i64 c)], p)) : cs = [.int .i64 a, .int .i64 b, .int .i64 c] := by
  have c3 : Tryd.prog.cellsOf 3 = 1 := by kernel_rfl
  have c46 : Tryd.prog.cellsOf 46 = 2 := by kernel_rfl
  have c89 : Tryd.prog.cellsOf 89 = 3 := by kernel_rfl
  obtain ⟨y0, y1, n, hx, hl, h0, h1⟩ := trod_struct2 Tryd.underlying89 h
  obtain ⟨z0, z1, n', hx0, hl0, k0, k1⟩ := trod_struct2 Tryd.underlying46 h0
  obtain ⟨m2, e2, x2, _⟩ := DataW.trod_int Tryd.underlying3 h1
  obtain ⟨m0, e0, x0, _⟩ := DataW.trod_int Tryd.underlying3 k0
  obtain ⟨m1, e1, x1, _⟩ := DataW.trod_int Tryd.underlying3 k1
  subst x0 x1 x2 hx0
  simp at hx
  obtain ⟨⟨⟨rfl, rfl⟩, rfl⟩, _⟩ := hx
  rw [c89] at hl
  rw [c3] at e0 e1 e2
  rw [c46] at e0 e1
  match cs, hl with
  | [u0, u1, u2], _ =>
    simp at e0 e1 e2
    rw [e0, e1, e2]
set_option maxRecDepth 100000 in
theorem of_laid {W : World} (h : laidMetH Tryd.prog laid2 W) : Glob W ∧ 2 ≤ W.heap.size := by
  rw [MakeChecks.laidMetH_plain _ _ _ (by kernel_rfl)] at h
  obtain ⟨ps, ⟨g0, t0, cs0, f0, p0, q0, hg0, ht0, hv0, hd0, ⟨g1, t1, cs1, f1, p1, q1, hg1, ht1, hv1, hd1, _, _⟩, _⟩, _, _⟩ := h
  obtain rfl := Option.some.inj (gSource.symm.trans hg0)
  obtain rfl := Option.some.inj (gSink.symm.trans hg1)
  obtain rfl := Option.some.inj (tSource.symm.trans ht0)
  obtain rfl := Option.some.inj (tSink.symm.trans ht1)
  have k0 := laid_knot hd0
  have k1 := laid_knot hd1
  have hc : ∀ i, W.cell? ⟨0, i, none⟩ = cs0[i]? := World.var?_cell hg0 hv0
  have hd : ∀ i, W.cell? ⟨1, i, none⟩ = cs1[i]? := World.var?_cell hg1 hv1
  obtain ⟨l0⟩ := cs0
  obtain ⟨l1⟩ := cs1
  simp at k0 k1
  subst k0 k1
  have d0 := hd 0
  refine ⟨⟨hc 0, hc 1, hc 2, d0, hd 1, hd 2⟩, ?_⟩
  have := World.block_lt_of_cell? W _ d0
  simp at this
  omega
end Go.Proofs.YtnhcpflenajeaaaDoor
