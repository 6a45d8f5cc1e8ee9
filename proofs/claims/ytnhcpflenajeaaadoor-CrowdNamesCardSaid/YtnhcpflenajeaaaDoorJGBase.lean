/- Facts on the types' rows, for the printed walks. -/
import Derived.Test.YtnhcpflenajeaaaDoorJPCrowdMostx0
import Derived.Test.YtnhcpflenajeaaaDoorJCalls
namespace Go.Proofs.YtnhcpflenajeaaaDoor.PCrowdMost
theorem info46 : (Tryd.prog.info? 46).map (fun i => (i.zero, i.size, i.bytes)) = some (some (.agg #[(.int .i64 0), (.int .i64 0)]), 2, 16) := by kernel_rfl
theorem info56 : (Tryd.prog.info? 56).map (fun i => (i.zero, i.size, i.bytes)) = some (some (.agg #[(.int .i64 0), (.int .i64 0), (.int .i64 0)]), 3, 24) := by kernel_rfl
end Go.Proofs.YtnhcpflenajeaaaDoor.PCrowdMost

/- geyseritelaw09_sample: printed by the kit's print.py for this seat (over contracts proved by hand where it calls the crowd's functions). -/
namespace Go.Proofs.YtnhcpflenajeaaaDoor.PCrowdMost
open Go.RowKit Go.Proofs.YtnhcpflenajeaaaDoorW.PrintWords Go.Proofs.YtnhcpflenajeaaaDoorW.PrintLast Go.Proofs.YtnhcpflenajeaaaDoorW.PrintMore
attribute [local go_sem] max2_int min2_int max_two min_two max_three min_three max_four min_four
set_option linter.unusedVariables false
set_option linter.unusedSimpArgs false
/-! ### geyseritelaw09_sample: function 28 -/
def geyseritelaw09_sample.f  : Option (List Int × (List (S51)) × (List (S49))) := some ((([50, 5, 55] : List Int)), (([(⟨0, 1, 2, 10⟩ : S51), (⟨1, 2, 3, 8⟩ : S51), (⟨0, 2, 7, 4⟩ : S51)] : List (S51))), (([(⟨0, 0, 40⟩ : S49), (⟨3, 0, 20⟩ : S49)] : List (S49))))
set_option maxHeartbeats 8000000 in
set_option maxRecDepth 100000 in
theorem geyseritelaw09_sample.calls  (r1 : List Int) (r2 : List (S51)) (r3 : List (S49)) (w : World) (h : geyseritelaw09_sample.f  = some (r1, r2, r3)) :
    Calls Tryd.prog 28 #[] w fun e w' => ∃ v0_ v1_ v2_ : Value, e = .returned (.agg #[v0_, v1_, v2_]) ∧ Kd.R (Kd.int .i64) 3 w' w.heap.size (fun _ => True) v0_ r1 ∧ Kd.R k51 51 w' w.heap.size (fun _ => True) v1_ r2 ∧ Kd.R k49 49 w' w.heap.size (fun _ => True) v2_ r3 ∧ Below w.heap.size w w' := by
  have hu26 := Tryd.underlying26
  have hu51 := Tryd.underlying51
  have hu49 := Tryd.underlying49
  have HB := Aside0.mk (Below.refl w.heap.size w)
  have H : (some ((([50, 5, 55] : List Int)), (([(⟨0, 1, 2, 10⟩ : S51), (⟨1, 2, 3, 8⟩ : S51), (⟨0, 2, 7, 4⟩ : S51)] : List (S51))), (([(⟨0, 0, 40⟩ : S49), (⟨3, 0, 20⟩ : S49)] : List (S49))))) = some (r1, r2, r3) := h
  clear h
  obtain ⟨y114, hy114⟩ : ∃ y_ : List Int, y_ = (([50, 5, 55] : List Int)) := ⟨_, rfl⟩
  replace H : (some (y114, (([(⟨0, 1, 2, 10⟩ : S51), (⟨1, 2, 3, 8⟩ : S51), (⟨0, 2, 7, 4⟩ : S51)] : List (S51))), (([(⟨0, 0, 40⟩ : S49), (⟨3, 0, 20⟩ : S49)] : List (S49))))) = some (r1, r2, r3) := by first | (rw [hy114]; with_reducible exact H) | (have H2_ := (Option.bind_some _ _).symm.trans H; rw [hy114]; with_reducible exact H2_) | (have H2_ := (Option.bind_some _ _).symm.trans H; with_reducible exact H2_) | with_reducible exact H | (rw [hy114]; exact H) | exact H
  have Ny114 := Aside0.mk hy114
  clear hy114
  obtain ⟨y117, hy117⟩ : ∃ y_ : List (S51), y_ = (([(⟨0, 1, 2, 10⟩ : S51), (⟨1, 2, 3, 8⟩ : S51), (⟨0, 2, 7, 4⟩ : S51)] : List (S51))) := ⟨_, rfl⟩
  replace H : (some (y114, y117, (([(⟨0, 0, 40⟩ : S49), (⟨3, 0, 20⟩ : S49)] : List (S49))))) = some (r1, r2, r3) := by first | (rw [hy117]; with_reducible exact H) | (have H2_ := (Option.bind_some _ _).symm.trans H; rw [hy117]; with_reducible exact H2_) | (have H2_ := (Option.bind_some _ _).symm.trans H; with_reducible exact H2_) | with_reducible exact H | (rw [hy117]; exact H) | exact H
  have Ny117 := Aside0.mk hy117
  clear hy117
  obtain ⟨y120, hy120⟩ : ∃ y_ : List (S49), y_ = (([(⟨0, 0, 40⟩ : S49), (⟨3, 0, 20⟩ : S49)] : List (S49))) := ⟨_, rfl⟩
  replace H : (some (y114, y117, y120)) = some (r1, r2, r3) := by first | (rw [hy120]; with_reducible exact H) | (have H2_ := (Option.bind_some _ _).symm.trans H; rw [hy120]; with_reducible exact H2_) | (have H2_ := (Option.bind_some _ _).symm.trans H; with_reducible exact H2_) | with_reducible exact H | (rw [hy120]; exact H) | exact H
  have Ny120 := Aside0.mk hy120
  clear hy120
  simp only [Option.some.injEq, Prod.mk.injEq] at H
  obtain ⟨rfl, rfl, rfl⟩ := H
  go_enter Tryd.func28, Tryd.ntmps28
  go_wp2_with (first | ((with_reducible refine gate_dst (N := 0) rfl ?_); refine box_event ?hg (N := 0) ?hd (cs := #[.slice none 0 0, .slice none 0 0, .slice none 0 0]) (t := 26) ?hr ?_; (case hd => rfl); (case hg => rfl); (case hr => first | (go_simp; done) | (go_simp; rfl)); intro gb113 hg w1 hbox hb; have n0_ := Aside0.mk (below_step (by repeat (first | (with_reducible first | exact HB.out | apply below_alloc | apply pw_below_drewN | apply below_drew1) | exact HB.out)) hb); have n1_ := Aside0.mk (hbox); have n2_ := Aside0.mk ((by rw [hg]; exact (below_size (by repeat (first | (with_reducible first | exact HB.out | apply below_alloc | apply pw_below_drewN | apply below_drew1) | exact HB.out))) : w.heap.size ≤ gb113)); have n3_ := Aside0.mk ((by rw [hg]; exact (below_size (by repeat (first | (with_reducible first | exact HB.out | apply below_alloc | apply pw_below_drewN | apply below_drew1) | exact HB.out))) : w.heap.size ≤ gb113)); clear HB; have HB := n0_; have BK113 := n1_; have GW113 := n2_; have GE113 := n3_; clear n0_ n1_ n2_ n3_; clear hb hbox hg) | ((with_reducible refine gate_dst (N := 1) rfl ?_); refine Kd.R_lit (Kd.int .i64) _ 3 ?hg (N := 1) ?hd (xs := ([50, 5, 55] : List Int)) (inner := [.int .i64 50, .int .i64 5, .int .i64 55]) (ok := fun _ => True) (okp := fun _ => True) ?hr ?hp (fun _ hk => hk) trivial (Below.refl _ _) (Nat.le_refl _) (by simp) ?_; (case hd => rfl); (case hg => rfl); (case hr => first | (go_simp; done) | (go_simp; rfl)); (case hp => exact (Reps.one (show Kd.M (Kd.int .i64) _ _ _ 50 [.int .i64 50] from rfl) (Reps.one (show Kd.M (Kd.int .i64) _ _ _ 5 [.int .i64 5] from rfl) (Reps.one (show Kd.M (Kd.int .i64) _ _ _ 55 [.int .i64 55] from rfl) (Reps.none _ _))))); intro v115 w2 ho3 hb hg_ hnew_; clear hg_ hnew_; (first | rw [← Ny114.out] at ho3 | (simp only [Int.reduceToNat] at ho3; rw [← Ny114.out] at ho3)); have n0_ := Aside0.mk (Kd.R_lower ho3 (below_size (by repeat (first | (with_reducible first | exact HB.out | apply below_alloc | apply pw_below_drewN | apply below_drew1 | refine below_set ?_ GE113.out) | exact HB.out)))); have n1_ := Aside0.mk (blk_below (g := gb113) (o := .cells #[.slice none 0 0, .slice none 0 0, .slice none 0 0] 26 (0, 0)) (by (with_reducible repeat (first | refine blk_drewN ?_ _ | refine blk_drew ?_ | refine blk_alloc ?_ _)); exact BK113.out) hb); have n2_ := Aside0.mk (below_step (by repeat (first | (with_reducible first | exact HB.out | apply below_alloc | apply pw_below_drewN | apply below_drew1 | refine below_set ?_ GE113.out) | exact HB.out)) hb); clear BK113; clear HB; have HO116 := n0_; have BK113 := n1_; have HB := n2_; clear n0_ n1_ n2_; clear hb ho3) | ((with_reducible refine gate_dst (N := 5) rfl ?_); refine Kd.R_lit k51 _ 51 ?hg (N := 5) ?hd (xs := ([(⟨0, 1, 2, 10⟩ : S51), (⟨1, 2, 3, 8⟩ : S51), (⟨0, 2, 7, 4⟩ : S51)] : List (S51))) (inner := [.int .i64 0, .int .i64 1, .int .i64 2, .int .i64 10, .int .i64 1, .int .i64 2, .int .i64 3, .int .i64 8, .int .i64 0, .int .i64 2, .int .i64 7, .int .i64 4]) (ok := fun _ => True) (okp := fun _ => True) ?hr ?hp (fun _ hk => hk) trivial (Below.refl _ _) (Nat.le_refl _) (by simp) ?_; (case hd => rfl); (case hg => rfl); (case hr => first | (go_simp; done) | (go_simp; rfl)); (case hp => exact (Reps.c4 (show Kd.M k51 _ _ _ (⟨0, 1, 2, 10⟩ : S51) [.int .i64 0, .int .i64 1, .int .i64 2, .int .i64 10] from (k51_mkM _ _ _ (⟨0, 1, 2, 10⟩ : S51) )) (Reps.c4 (show Kd.M k51 _ _ _ (⟨1, 2, 3, 8⟩ : S51) [.int .i64 1, .int .i64 2, .int .i64 3, .int .i64 8] from (k51_mkM _ _ _ (⟨1, 2, 3, 8⟩ : S51) )) (Reps.c4 (show Kd.M k51 _ _ _ (⟨0, 2, 7, 4⟩ : S51) [.int .i64 0, .int .i64 2, .int .i64 7, .int .i64 4] from (k51_mkM _ _ _ (⟨0, 2, 7, 4⟩ : S51) )) (Reps.none _ _))))); intro v118 w4 ho5 hb hg_ hnew_; clear hg_ hnew_; (first | rw [← Ny117.out] at ho5 | (simp only [Int.reduceToNat] at ho5; rw [← Ny117.out] at ho5)); have n0_ := Aside0.mk (Kd.R_below (by (with_reducible repeat (first | apply Kd.R_alloc | apply Kd.R_drewN | apply Kd.R_drew)); exact HO116.out) hb); have n1_ := Aside0.mk (Kd.R_lower ho5 (below_size (by repeat (first | (with_reducible first | exact HB.out | apply below_alloc | apply pw_below_drewN | apply below_drew1 | refine below_set ?_ GE113.out) | exact HB.out)))); have n2_ := Aside0.mk (blk_below (g := gb113) (o := .cells #[.slice none 0 0, .slice none 0 0, .slice none 0 0] 26 (0, 0)) (by (with_reducible repeat (first | refine blk_drewN ?_ _ | refine blk_drew ?_ | refine blk_alloc ?_ _)); exact BK113.out) hb); have n3_ := Aside0.mk (below_step (by repeat (first | (with_reducible first | exact HB.out | apply below_alloc | apply pw_below_drewN | apply below_drew1 | refine below_set ?_ GE113.out) | exact HB.out)) hb); clear HO116; clear BK113; clear HB; have HO116 := n0_; have HO119 := n1_; have BK113 := n2_; have HB := n3_; clear n0_ n1_ n2_ n3_; clear hb ho5) | ((with_reducible refine gate_dst (N := 8) rfl ?_); refine Kd.R_lit k49 _ 49 ?hg (N := 8) ?hd (xs := ([(⟨0, 0, 40⟩ : S49), (⟨3, 0, 20⟩ : S49)] : List (S49))) (inner := [.int .i64 0, .int .i64 0, .int .i64 40, .int .i64 3, .int .i64 0, .int .i64 20]) (ok := fun _ => True) (okp := fun _ => True) ?hr ?hp (fun _ hk => hk) trivial (Below.refl _ _) (Nat.le_refl _) (by simp) ?_; (case hd => rfl); (case hg => rfl); (case hr => first | (go_simp; done) | (go_simp; rfl)); (case hp => exact (Reps.c3 (show Kd.M k49 _ _ _ (⟨0, 0, 40⟩ : S49) [.int .i64 0, .int .i64 0, .int .i64 40] from (k49_mkM _ _ _ (⟨0, 0, 40⟩ : S49) )) (Reps.c3 (show Kd.M k49 _ _ _ (⟨3, 0, 20⟩ : S49) [.int .i64 3, .int .i64 0, .int .i64 20] from (k49_mkM _ _ _ (⟨3, 0, 20⟩ : S49) )) (Reps.none _ _)))); intro v121 w6 ho7 hb hg_ hnew_; clear hg_ hnew_; (first | rw [← Ny120.out] at ho7 | (simp only [Int.reduceToNat] at ho7; rw [← Ny120.out] at ho7)); have n0_ := Aside0.mk (Kd.R_below (by (with_reducible repeat (first | apply Kd.R_alloc | apply Kd.R_drewN | apply Kd.R_drew)); exact HO116.out) hb); have n1_ := Aside0.mk (Kd.R_below (by (with_reducible repeat (first | apply Kd.R_alloc | apply Kd.R_drewN | apply Kd.R_drew)); exact HO119.out) hb); have n2_ := Aside0.mk (Kd.R_lower ho7 (below_size (by repeat (first | (with_reducible first | exact HB.out | apply below_alloc | apply pw_below_drewN | apply below_drew1 | refine below_set ?_ GE113.out) | exact HB.out)))); have n3_ := Aside0.mk (blk_below (g := gb113) (o := .cells #[.slice none 0 0, .slice none 0 0, .slice none 0 0] 26 (0, 0)) (by (with_reducible repeat (first | refine blk_drewN ?_ _ | refine blk_drew ?_ | refine blk_alloc ?_ _)); exact BK113.out) hb); have n4_ := Aside0.mk (below_step (by repeat (first | (with_reducible first | exact HB.out | apply below_alloc | apply pw_below_drewN | apply below_drew1 | refine below_set ?_ GE113.out) | exact HB.out)) hb); clear HO116; clear HO119; clear BK113; clear HB; have HO116 := n0_; have HO119 := n1_; have HO122 := n2_; have BK113 := n3_; have HB := n4_; clear n0_ n1_ n2_ n3_ n4_; clear hb ho7; obtain ⟨Ao8, co8, eo8⟩ := Kd.R_slice HO122.out; subst eo8; obtain ⟨Ao9, co9, eo9⟩ := Kd.R_slice HO119.out; subst eo9; obtain ⟨Ao10, co10, eo10⟩ := Kd.R_slice HO116.out; subst eo10; have hcz11_0 : w6.cell? ⟨gb113, 0, none⟩ = some (.slice none 0 0) := (blk_cell BK113.out 0).trans rfl; have hcz11_1 : w6.cell? ⟨gb113, 1, none⟩ = some (.slice none 0 0) := (blk_cell BK113.out 1).trans rfl; have hcz11_2 : w6.cell? ⟨gb113, 2, none⟩ = some (.slice none 0 0) := (blk_cell BK113.out 2).trans rfl; have hfz11_0 := blk_frozen BK113.out 0; have hfz11_1 := blk_frozen BK113.out 1; have hfz11_2 := blk_frozen BK113.out 2))
  refine bodyPost_ret (results_cell_row rfl _ _ gb113 26 #[.slice Ao10 y114.length co10, .slice Ao9 y117.length co9, .slice Ao8 y120.length co8] (0, 0) _ rfl (by (with_reducible repeat (first | refine blk_drewN ?_ _ | refine blk_drew ?_ | refine blk_alloc ?_ _)); refine blk_put (cs := #[.slice Ao10 y114.length co10, .slice Ao9 y117.length co9, .slice none 0 0]) ?_ 2 _ rfl; (with_reducible repeat (first | refine blk_drewN ?_ _ | refine blk_drew ?_ | refine blk_alloc ?_ _)); refine blk_put (cs := #[.slice Ao10 y114.length co10, .slice none 0 0, .slice none 0 0]) ?_ 1 _ rfl; (with_reducible repeat (first | refine blk_drewN ?_ _ | refine blk_drew ?_ | refine blk_alloc ?_ _)); refine blk_put (cs := #[.slice none 0 0, .slice none 0 0, .slice none 0 0]) ?_ 0 _ rfl; (with_reducible repeat (first | refine blk_drewN ?_ _ | refine blk_drew ?_ | refine blk_alloc ?_ _)); exact BK113.out) Tryd.underlying26 rfl (by kernel_rfl)) rfl ?_
  exact ⟨_, _, _, by first | rfl | (simp [errW_none, errW_some] <;> rfl) | (simp [*, errW_none, errW_some] <;> rfl), by (with_reducible repeat (first | apply Kd.R_alloc | apply Kd.R_drewN | apply Kd.R_drew)); exact Kd.R_mono (Kd.R_far (p := ⟨gb113, 2, none⟩) (Kd.R_far (p := ⟨gb113, 1, none⟩) (Kd.R_far (p := ⟨gb113, 0, none⟩) (Kd.R_types HO116.out BK113.out (by decide)) (fun _ hk => hk.2) (.slice Ao10 y114.length co10)) (fun _ hk => hk.2) (.slice Ao9 y117.length co9)) (fun _ hk => hk.2) (.slice Ao8 y120.length co8)) (fun _ hk => trivial), by (with_reducible repeat (first | apply Kd.R_alloc | apply Kd.R_drewN | apply Kd.R_drew)); exact Kd.R_mono (Kd.R_far (p := ⟨gb113, 2, none⟩) (Kd.R_far (p := ⟨gb113, 1, none⟩) (Kd.R_far (p := ⟨gb113, 0, none⟩) (Kd.R_types HO119.out BK113.out (by decide)) (fun _ hk => hk.2) (.slice Ao10 y114.length co10)) (fun _ hk => hk.2) (.slice Ao9 y117.length co9)) (fun _ hk => hk.2) (.slice Ao8 y120.length co8)) (fun _ hk => trivial), by (with_reducible repeat (first | apply Kd.R_alloc | apply Kd.R_drewN | apply Kd.R_drew)); exact Kd.R_mono (Kd.R_far (p := ⟨gb113, 2, none⟩) (Kd.R_far (p := ⟨gb113, 1, none⟩) (Kd.R_far (p := ⟨gb113, 0, none⟩) (Kd.R_types HO122.out BK113.out (by decide)) (fun _ hk => hk.2) (.slice Ao10 y114.length co10)) (fun _ hk => hk.2) (.slice Ao9 y117.length co9)) (fun _ hk => hk.2) (.slice Ao8 y120.length co8)) (fun _ hk => trivial), by repeat (first | (with_reducible first | exact HB.out | apply below_alloc | apply pw_below_drewN | apply below_drew1 | refine below_set ?_ GE113.out) | exact HB.out)⟩
end Go.Proofs.YtnhcpflenajeaaaDoor.PCrowdMost

/- geyseritelaw09_small: printed by the kit's print.py for this seat (over contracts proved by hand where it calls the crowd's functions). -/
namespace Go.Proofs.YtnhcpflenajeaaaDoor.PCrowdMost
open Go.RowKit Go.Proofs.YtnhcpflenajeaaaDoorW.PrintWords Go.Proofs.YtnhcpflenajeaaaDoorW.PrintLast Go.Proofs.YtnhcpflenajeaaaDoorW.PrintMore
attribute [local go_sem] max2_int min2_int max_two min_two max_three min_three max_four min_four
set_option linter.unusedVariables false
set_option linter.unusedSimpArgs false
/-! ### geyseritelaw09_small: function 29 -/
def geyseritelaw09_small.f  : Option (List Int × (List (S51)) × (List (S49))) := some ((([4, 9] : List Int)), (([(⟨0, 1, 1, 3⟩ : S51)] : List (S51))), (([(⟨0, 0, 10⟩ : S49)] : List (S49))))
set_option maxHeartbeats 8000000 in
set_option maxRecDepth 100000 in
theorem geyseritelaw09_small.calls  (r1 : List Int) (r2 : List (S51)) (r3 : List (S49)) (w : World) (h : geyseritelaw09_small.f  = some (r1, r2, r3)) :
    Calls Tryd.prog 29 #[] w fun e w' => ∃ v0_ v1_ v2_ : Value, e = .returned (.agg #[v0_, v1_, v2_]) ∧ Kd.R (Kd.int .i64) 3 w' w.heap.size (fun _ => True) v0_ r1 ∧ Kd.R k51 51 w' w.heap.size (fun _ => True) v1_ r2 ∧ Kd.R k49 49 w' w.heap.size (fun _ => True) v2_ r3 ∧ Below w.heap.size w w' := by
  have hu26 := Tryd.underlying26
  have hu51 := Tryd.underlying51
  have hu49 := Tryd.underlying49
  have HB := Aside0.mk (Below.refl w.heap.size w)
  have H : (some ((([4, 9] : List Int)), (([(⟨0, 1, 1, 3⟩ : S51)] : List (S51))), (([(⟨0, 0, 10⟩ : S49)] : List (S49))))) = some (r1, r2, r3) := h
  clear h
  obtain ⟨y124, hy124⟩ : ∃ y_ : List Int, y_ = (([4, 9] : List Int)) := ⟨_, rfl⟩
  replace H : (some (y124, (([(⟨0, 1, 1, 3⟩ : S51)] : List (S51))), (([(⟨0, 0, 10⟩ : S49)] : List (S49))))) = some (r1, r2, r3) := by first | (rw [hy124]; with_reducible exact H) | (have H2_ := (Option.bind_some _ _).symm.trans H; rw [hy124]; with_reducible exact H2_) | (have H2_ := (Option.bind_some _ _).symm.trans H; with_reducible exact H2_) | with_reducible exact H | (rw [hy124]; exact H) | exact H
  have Ny124 := Aside0.mk hy124
  clear hy124
  obtain ⟨y127, hy127⟩ : ∃ y_ : List (S51), y_ = (([(⟨0, 1, 1, 3⟩ : S51)] : List (S51))) := ⟨_, rfl⟩
  replace H : (some (y124, y127, (([(⟨0, 0, 10⟩ : S49)] : List (S49))))) = some (r1, r2, r3) := by first | (rw [hy127]; with_reducible exact H) | (have H2_ := (Option.bind_some _ _).symm.trans H; rw [hy127]; with_reducible exact H2_) | (have H2_ := (Option.bind_some _ _).symm.trans H; with_reducible exact H2_) | with_reducible exact H | (rw [hy127]; exact H) | exact H
  have Ny127 := Aside0.mk hy127
  clear hy127
  obtain ⟨y130, hy130⟩ : ∃ y_ : List (S49), y_ = (([(⟨0, 0, 10⟩ : S49)] : List (S49))) := ⟨_, rfl⟩
  replace H : (some (y124, y127, y130)) = some (r1, r2, r3) := by first | (rw [hy130]; with_reducible exact H) | (have H2_ := (Option.bind_some _ _).symm.trans H; rw [hy130]; with_reducible exact H2_) | (have H2_ := (Option.bind_some _ _).symm.trans H; with_reducible exact H2_) | with_reducible exact H | (rw [hy130]; exact H) | exact H
  have Ny130 := Aside0.mk hy130
  clear hy130
  simp only [Option.some.injEq, Prod.mk.injEq] at H
  obtain ⟨rfl, rfl, rfl⟩ := H
  go_enter Tryd.func29, Tryd.ntmps29
  go_wp2_with (first | ((with_reducible refine gate_dst (N := 0) rfl ?_); refine box_event ?hg (N := 0) ?hd (cs := #[.slice none 0 0, .slice none 0 0, .slice none 0 0]) (t := 26) ?hr ?_; (case hd => rfl); (case hg => rfl); (case hr => first | (go_simp; done) | (go_simp; rfl)); intro gb123 hg w1 hbox hb; have n0_ := Aside0.mk (below_step (by repeat (first | (with_reducible first | exact HB.out | apply below_alloc | apply pw_below_drewN | apply below_drew1) | exact HB.out)) hb); have n1_ := Aside0.mk (hbox); have n2_ := Aside0.mk ((by rw [hg]; exact (below_size (by repeat (first | (with_reducible first | exact HB.out | apply below_alloc | apply pw_below_drewN | apply below_drew1) | exact HB.out))) : w.heap.size ≤ gb123)); have n3_ := Aside0.mk ((by rw [hg]; exact (below_size (by repeat (first | (with_reducible first | exact HB.out | apply below_alloc | apply pw_below_drewN | apply below_drew1) | exact HB.out))) : w.heap.size ≤ gb123)); clear HB; have HB := n0_; have BK123 := n1_; have GW123 := n2_; have GE123 := n3_; clear n0_ n1_ n2_ n3_; clear hb hbox hg) | ((with_reducible refine gate_dst (N := 1) rfl ?_); refine Kd.R_lit (Kd.int .i64) _ 3 ?hg (N := 1) ?hd (xs := ([4, 9] : List Int)) (inner := [.int .i64 4, .int .i64 9]) (ok := fun _ => True) (okp := fun _ => True) ?hr ?hp (fun _ hk => hk) trivial (Below.refl _ _) (Nat.le_refl _) (by simp) ?_; (case hd => rfl); (case hg => rfl); (case hr => first | (go_simp; done) | (go_simp; rfl)); (case hp => exact (Reps.one (show Kd.M (Kd.int .i64) _ _ _ 4 [.int .i64 4] from rfl) (Reps.one (show Kd.M (Kd.int .i64) _ _ _ 9 [.int .i64 9] from rfl) (Reps.none _ _)))); intro v125 w2 ho3 hb hg_ hnew_; clear hg_ hnew_; (first | rw [← Ny124.out] at ho3 | (simp only [Int.reduceToNat] at ho3; rw [← Ny124.out] at ho3)); have n0_ := Aside0.mk (Kd.R_lower ho3 (below_size (by repeat (first | (with_reducible first | exact HB.out | apply below_alloc | apply pw_below_drewN | apply below_drew1 | refine below_set ?_ GE123.out) | exact HB.out)))); have n1_ := Aside0.mk (blk_below (g := gb123) (o := .cells #[.slice none 0 0, .slice none 0 0, .slice none 0 0] 26 (0, 0)) (by (with_reducible repeat (first | refine blk_drewN ?_ _ | refine blk_drew ?_ | refine blk_alloc ?_ _)); exact BK123.out) hb); have n2_ := Aside0.mk (below_step (by repeat (first | (with_reducible first | exact HB.out | apply below_alloc | apply pw_below_drewN | apply below_drew1 | refine below_set ?_ GE123.out) | exact HB.out)) hb); clear BK123; clear HB; have HO126 := n0_; have BK123 := n1_; have HB := n2_; clear n0_ n1_ n2_; clear hb ho3) | ((with_reducible refine gate_dst (N := 3) rfl ?_); refine Kd.R_lit k51 _ 51 ?hg (N := 3) ?hd (xs := ([(⟨0, 1, 1, 3⟩ : S51)] : List (S51))) (inner := [.int .i64 0, .int .i64 1, .int .i64 1, .int .i64 3]) (ok := fun _ => True) (okp := fun _ => True) ?hr ?hp (fun _ hk => hk) trivial (Below.refl _ _) (Nat.le_refl _) (by simp) ?_; (case hd => rfl); (case hg => rfl); (case hr => first | (go_simp; done) | (go_simp; rfl)); (case hp => exact (Reps.c4 (show Kd.M k51 _ _ _ (⟨0, 1, 1, 3⟩ : S51) [.int .i64 0, .int .i64 1, .int .i64 1, .int .i64 3] from (k51_mkM _ _ _ (⟨0, 1, 1, 3⟩ : S51) )) (Reps.none _ _))); intro v128 w4 ho5 hb hg_ hnew_; clear hg_ hnew_; (first | rw [← Ny127.out] at ho5 | (simp only [Int.reduceToNat] at ho5; rw [← Ny127.out] at ho5)); have n0_ := Aside0.mk (Kd.R_below (by (with_reducible repeat (first | apply Kd.R_alloc | apply Kd.R_drewN | apply Kd.R_drew)); exact HO126.out) hb); have n1_ := Aside0.mk (Kd.R_lower ho5 (below_size (by repeat (first | (with_reducible first | exact HB.out | apply below_alloc | apply pw_below_drewN | apply below_drew1 | refine below_set ?_ GE123.out) | exact HB.out)))); have n2_ := Aside0.mk (blk_below (g := gb123) (o := .cells #[.slice none 0 0, .slice none 0 0, .slice none 0 0] 26 (0, 0)) (by (with_reducible repeat (first | refine blk_drewN ?_ _ | refine blk_drew ?_ | refine blk_alloc ?_ _)); exact BK123.out) hb); have n3_ := Aside0.mk (below_step (by repeat (first | (with_reducible first | exact HB.out | apply below_alloc | apply pw_below_drewN | apply below_drew1 | refine below_set ?_ GE123.out) | exact HB.out)) hb); clear HO126; clear BK123; clear HB; have HO126 := n0_; have HO129 := n1_; have BK123 := n2_; have HB := n3_; clear n0_ n1_ n2_ n3_; clear hb ho5) | ((with_reducible refine gate_dst (N := 5) rfl ?_); refine Kd.R_lit k49 _ 49 ?hg (N := 5) ?hd (xs := ([(⟨0, 0, 10⟩ : S49)] : List (S49))) (inner := [.int .i64 0, .int .i64 0, .int .i64 10]) (ok := fun _ => True) (okp := fun _ => True) ?hr ?hp (fun _ hk => hk) trivial (Below.refl _ _) (Nat.le_refl _) (by simp) ?_; (case hd => rfl); (case hg => rfl); (case hr => first | (go_simp; done) | (go_simp; rfl)); (case hp => exact (Reps.c3 (show Kd.M k49 _ _ _ (⟨0, 0, 10⟩ : S49) [.int .i64 0, .int .i64 0, .int .i64 10] from (k49_mkM _ _ _ (⟨0, 0, 10⟩ : S49) )) (Reps.none _ _))); intro v131 w6 ho7 hb hg_ hnew_; clear hg_ hnew_; (first | rw [← Ny130.out] at ho7 | (simp only [Int.reduceToNat] at ho7; rw [← Ny130.out] at ho7)); have n0_ := Aside0.mk (Kd.R_below (by (with_reducible repeat (first | apply Kd.R_alloc | apply Kd.R_drewN | apply Kd.R_drew)); exact HO126.out) hb); have n1_ := Aside0.mk (Kd.R_below (by (with_reducible repeat (first | apply Kd.R_alloc | apply Kd.R_drewN | apply Kd.R_drew)); exact HO129.out) hb); have n2_ := Aside0.mk (Kd.R_lower ho7 (below_size (by repeat (first | (with_reducible first | exact HB.out | apply below_alloc | apply pw_below_drewN | apply below_drew1 | refine below_set ?_ GE123.out) | exact HB.out)))); have n3_ := Aside0.mk (blk_below (g := gb123) (o := .cells #[.slice none 0 0, .slice none 0 0, .slice none 0 0] 26 (0, 0)) (by (with_reducible repeat (first | refine blk_drewN ?_ _ | refine blk_drew ?_ | refine blk_alloc ?_ _)); exact BK123.out) hb); have n4_ := Aside0.mk (below_step (by repeat (first | (with_reducible first | exact HB.out | apply below_alloc | apply pw_below_drewN | apply below_drew1 | refine below_set ?_ GE123.out) | exact HB.out)) hb); clear HO126; clear HO129; clear BK123; clear HB; have HO126 := n0_; have HO129 := n1_; have HO132 := n2_; have BK123 := n3_; have HB := n4_; clear n0_ n1_ n2_ n3_ n4_; clear hb ho7; obtain ⟨Ao8, co8, eo8⟩ := Kd.R_slice HO132.out; subst eo8; obtain ⟨Ao9, co9, eo9⟩ := Kd.R_slice HO129.out; subst eo9; obtain ⟨Ao10, co10, eo10⟩ := Kd.R_slice HO126.out; subst eo10; have hcz11_0 : w6.cell? ⟨gb123, 0, none⟩ = some (.slice none 0 0) := (blk_cell BK123.out 0).trans rfl; have hcz11_1 : w6.cell? ⟨gb123, 1, none⟩ = some (.slice none 0 0) := (blk_cell BK123.out 1).trans rfl; have hcz11_2 : w6.cell? ⟨gb123, 2, none⟩ = some (.slice none 0 0) := (blk_cell BK123.out 2).trans rfl; have hfz11_0 := blk_frozen BK123.out 0; have hfz11_1 := blk_frozen BK123.out 1; have hfz11_2 := blk_frozen BK123.out 2))
  refine bodyPost_ret (results_cell_row rfl _ _ gb123 26 #[.slice Ao10 y124.length co10, .slice Ao9 y127.length co9, .slice Ao8 y130.length co8] (0, 0) _ rfl (by (with_reducible repeat (first | refine blk_drewN ?_ _ | refine blk_drew ?_ | refine blk_alloc ?_ _)); refine blk_put (cs := #[.slice Ao10 y124.length co10, .slice Ao9 y127.length co9, .slice none 0 0]) ?_ 2 _ rfl; (with_reducible repeat (first | refine blk_drewN ?_ _ | refine blk_drew ?_ | refine blk_alloc ?_ _)); refine blk_put (cs := #[.slice Ao10 y124.length co10, .slice none 0 0, .slice none 0 0]) ?_ 1 _ rfl; (with_reducible repeat (first | refine blk_drewN ?_ _ | refine blk_drew ?_ | refine blk_alloc ?_ _)); refine blk_put (cs := #[.slice none 0 0, .slice none 0 0, .slice none 0 0]) ?_ 0 _ rfl; (with_reducible repeat (first | refine blk_drewN ?_ _ | refine blk_drew ?_ | refine blk_alloc ?_ _)); exact BK123.out) Tryd.underlying26 rfl (by kernel_rfl)) rfl ?_
  exact ⟨_, _, _, by first | rfl | (simp [errW_none, errW_some] <;> rfl) | (simp [*, errW_none, errW_some] <;> rfl), by (with_reducible repeat (first | apply Kd.R_alloc | apply Kd.R_drewN | apply Kd.R_drew)); exact Kd.R_mono (Kd.R_far (p := ⟨gb123, 2, none⟩) (Kd.R_far (p := ⟨gb123, 1, none⟩) (Kd.R_far (p := ⟨gb123, 0, none⟩) (Kd.R_types HO126.out BK123.out (by decide)) (fun _ hk => hk.2) (.slice Ao10 y124.length co10)) (fun _ hk => hk.2) (.slice Ao9 y127.length co9)) (fun _ hk => hk.2) (.slice Ao8 y130.length co8)) (fun _ hk => trivial), by (with_reducible repeat (first | apply Kd.R_alloc | apply Kd.R_drewN | apply Kd.R_drew)); exact Kd.R_mono (Kd.R_far (p := ⟨gb123, 2, none⟩) (Kd.R_far (p := ⟨gb123, 1, none⟩) (Kd.R_far (p := ⟨gb123, 0, none⟩) (Kd.R_types HO129.out BK123.out (by decide)) (fun _ hk => hk.2) (.slice Ao10 y124.length co10)) (fun _ hk => hk.2) (.slice Ao9 y127.length co9)) (fun _ hk => hk.2) (.slice Ao8 y130.length co8)) (fun _ hk => trivial), by (with_reducible repeat (first | apply Kd.R_alloc | apply Kd.R_drewN | apply Kd.R_drew)); exact Kd.R_mono (Kd.R_far (p := ⟨gb123, 2, none⟩) (Kd.R_far (p := ⟨gb123, 1, none⟩) (Kd.R_far (p := ⟨gb123, 0, none⟩) (Kd.R_types HO132.out BK123.out (by decide)) (fun _ hk => hk.2) (.slice Ao10 y124.length co10)) (fun _ hk => hk.2) (.slice Ao9 y127.length co9)) (fun _ hk => hk.2) (.slice Ao8 y130.length co8)) (fun _ hk => trivial), by repeat (first | (with_reducible first | exact HB.out | apply below_alloc | apply pw_below_drewN | apply below_drew1 | refine below_set ?_ GE123.out) | exact HB.out)⟩
end Go.Proofs.YtnhcpflenajeaaaDoor.PCrowdMost

/- geyseriteref09_Stands: printed by the kit's print.py for this seat (over contracts proved by hand where it calls the crowd's functions). -/
namespace Go.Proofs.YtnhcpflenajeaaaDoor.PCrowdMost
open Go.RowKit Go.Proofs.YtnhcpflenajeaaaDoorW.PrintWords Go.Proofs.YtnhcpflenajeaaaDoorW.PrintLast Go.Proofs.YtnhcpflenajeaaaDoorW.PrintMore
attribute [local go_sem] max2_int min2_int max_two min_two max_three min_three max_four min_four
set_option linter.unusedVariables false
set_option linter.unusedSimpArgs false
attribute [local go_sem high] eqA46
/-! ### geyseriteref09_Stands: function 20 -/
def geyseriteref09_Stands.l0 : Nat → List (S46) → List (S46) → Int → Option (Bool)
  | 0, _, _, _ => none
  | k + 1, x0, x1, x5 => if x5 < (x0.length : Int) then (if 0 ≤ x5 then (if x5 < (x1.length : Int) then (if (!(((rd_T46 x0 x5).f0) == ((rd_T46 x1 x5).f0)) || (!(((rd_T46 x0 x5).f1) == ((rd_T46 x1 x5).f1)))) = true then (some false) else (geyseriteref09_Stands.l0 k x0 x1 (wrap64 (x5 + 1)))) else (none)) else (none)) else (some true)
def geyseriteref09_Stands.f (k : Nat) (l0 : List (S46)) (l1 : List (S46)) : Option (Bool) := if (l0.length : Int) = (l1.length : Int) then (geyseriteref09_Stands.l0 k l0 l1 0) else (some false)
theorem geyseriteref09_Stands.mono_l : ∀ k, (∀ y0 y1 y2, LeO (geyseriteref09_Stands.l0 k y0 y1 y2) (geyseriteref09_Stands.l0 (k + 1) y0 y1 y2))
  | 0 => fun _ _ _ r h => by simp [geyseriteref09_Stands.l0] at h
  | k + 1 => by
    have ih0 := geyseriteref09_Stands.mono_l k
    · intro y0 y1 y2
      unfold geyseriteref09_Stands.l0
      repeat' first
      | (with_reducible exact ih0 _ _ _)
      | (with_reducible exact LeO.refl _)
      | (with_reducible exact LeO.none _)
      | (with_reducible refine LeO.ite ?_ ?_)
      | (with_reducible refine LeO.bind ?_ (fun _ => ?_))
      | exact ih0 _ _ _
      | exact LeO.none _
      | refine LeO.ite ?_ ?_
      | refine LeO.bind ?_ (fun _ => ?_)
theorem geyseriteref09_Stands.mono : ∀ a0 a1 k, LeO (geyseriteref09_Stands.f k a0 a1) (geyseriteref09_Stands.f (k + 1) a0 a1) := by
  intro a0 a1 k
  have ih0 := geyseriteref09_Stands.mono_l k
  unfold geyseriteref09_Stands.f
  repeat' first
      | (with_reducible exact ih0 _ _ _)
      | (with_reducible exact LeO.refl _)
      | (with_reducible exact LeO.none _)
      | (with_reducible refine LeO.ite ?_ ?_)
      | (with_reducible refine LeO.bind ?_ (fun _ => ?_))
      | exact ih0 _ _ _
      | exact LeO.none _
      | refine LeO.ite ?_ ?_
      | refine LeO.bind ?_ (fun _ => ?_)
set_option maxHeartbeats 8000000 in
set_option maxRecDepth 100000 in
theorem geyseriteref09_Stands.calls (k : Nat) (A0 : Option Addr) (c0 : Nat) (l0 : List (S46)) (A1 : Option Addr) (c1 : Nat) (l1 : List (S46)) (r : Bool) (w : World) (hr0 : Kd.C k46 w A0 l0.length l0) (hc0 : l0.length ≤ c0) (hr1 : Kd.C k46 w A1 l1.length l1) (hc1 : l1.length ≤ c1) (h : geyseriteref09_Stands.f k l0 l1 = some r) :
    Calls Tryd.prog 20 #[.slice A0 l0.length c0, .slice A1 l1.length c1] w fun e w' => e = .returned (.bool r) ∧ Drawn0 w w' := by
  have hu46 := Tryd.underlying46
  have HR0 := Aside0.mk hr0
  have HC0 := Aside0.mk hc0
  clear hr0 hc0
  have HR1 := Aside0.mk hr1
  have HC1 := Aside0.mk hc1
  clear hr1 hc1
  have H : (if (l0.length : Int) = (l1.length : Int) then (geyseriteref09_Stands.l0 k l0 l1 0) else (some false)) = some r := h
  clear h
  by_cases c3 : (l0.length : Int) = (l1.length : Int)
  · rw [if_pos c3] at H
    have c3b0 : ((l0.length : Int) == (l1.length : Int)) = true := beq_iff_eq.mpr c3
    have c3b1 : ((l0.length : Int) != (l1.length : Int)) = false := bne_eq_false_iff_eq.mpr c3
    have c3b2 : (l0.length == l1.length) = true := by first | simpa using c3 | (simp at c3 ⊢; omega)
    clear c3
    have H' := Aside0.mk H
    clear H
    go_enter Tryd.func20, Tryd.ntmps20
    go_wp2
    repeat (go_quiet (fail); try go_wp2)
    go_loopg [5] k (fun kq v5 w' => ∃ (x5_1 : Int), v5 = .int .i64 x5_1 ∧ Aside0 (geyseriteref09_Stands.l0 kq l0 l1 x5_1 = some r) ∧ Aside0 (kq ≤ k) ∧ Drawn0 w w')
    case atStart => exact ⟨(0), (by first | rfl | (simp; done) | (simp [*]; done)), H', ⟨Nat.le_refl _⟩, by repeat (first | exact Drawn0.refl _ | apply Drawn0.step)⟩
    case round =>
      clear H'
      try clear c1
      try clear c2
      try clear p2
      try clear c3
      try clear c3b0
      try clear c3b1
      try clear c3b2
      obtain ⟨x5_1, rfl, HA, HK1, ⟨m1, rfl⟩⟩ := hrel
      cases gk with
      | zero => exact absurd HA.out (by simp [geyseriteref09_Stands.l0])
      | succ k1 =>
        have H := HA.out
        clear HA
        simp only [geyseriteref09_Stands.l0] at H
        by_cases c4 : x5_1 < (l0.length : Int)
        · rw [if_pos c4] at H
          have c4b0 : decide (x5_1 < (l0.length : Int)) = true := decide_eq_true c4
          clear c4
          by_cases c5 : 0 ≤ x5_1
          · rw [if_pos c5] at H
            have c5b0 : decide (0 ≤ x5_1) = true := decide_eq_true c5
            clear c5
            by_cases c6 : x5_1 < (l1.length : Int)
            · rw [if_pos c6] at H
              have c6b0 : decide (x5_1 < (l1.length : Int)) = true := decide_eq_true c6
              clear c6
              by_cases c7 : (!(((rd_T46 l0 x5_1).f0) == ((rd_T46 l1 x5_1).f0)) || (!(((rd_T46 l0 x5_1).f1) == ((rd_T46 l1 x5_1).f1)))) = true
              · rw [if_pos c7] at H
                have c7b0 : (!(((rd_T46 l0 x5_1).f0) == ((rd_T46 l1 x5_1).f0)) || (!(((rd_T46 l0 x5_1).f1) == ((rd_T46 l1 x5_1).f1)))) = true := c7
                clear c7
                obtain rfl := Option.some.inj H
                have p111 : 0 ≤ (x5_1 : Int) := of_decide_eq_true (by first | (with_reducible assumption) | assumption)
                have q111 : x5_1 < (l0.length : Int) := of_decide_eq_true (by first | (with_reducible assumption) | assumption)
                obtain ⟨ad111, e111, hx111_0, hx111_1⟩ := at_T46 HR0.out x5_1 p111 q111
                cases e111
                replace p111 := eq_true p111
                replace q111 := eq_true q111
                have p112 : 0 ≤ (x5_1 : Int) := of_decide_eq_true (by first | (with_reducible assumption) | assumption)
                have q112 : x5_1 < (l1.length : Int) := of_decide_eq_true (by first | (with_reducible assumption) | assumption)
                obtain ⟨ad112, e112, hx112_0, hx112_1⟩ := at_T46 HR1.out x5_1 p112 q112
                cases e112
                replace p112 := eq_true p112
                replace q112 := eq_true q112
                go_wp2
                repeat (go_quiet (fail); try go_wp2)
                go_ret
                exact ⟨by first | rfl | (simp; done) | (simp [*]; done), by repeat (first | exact Drawn0.refl _ | apply Drawn0.step)⟩
              · rw [if_neg c7] at H
                have c7b0 : (!(((rd_T46 l0 x5_1).f0) == ((rd_T46 l1 x5_1).f0)) || (!(((rd_T46 l0 x5_1).f1) == ((rd_T46 l1 x5_1).f1)))) = false := by simpa using c7
                clear c7
                have H' := Aside0.mk H
                clear H
                have p111 : 0 ≤ (x5_1 : Int) := of_decide_eq_true (by first | (with_reducible assumption) | assumption)
                have q111 : x5_1 < (l0.length : Int) := of_decide_eq_true (by first | (with_reducible assumption) | assumption)
                obtain ⟨ad111, e111, hx111_0, hx111_1⟩ := at_T46 HR0.out x5_1 p111 q111
                cases e111
                replace p111 := eq_true p111
                replace q111 := eq_true q111
                have p112 : 0 ≤ (x5_1 : Int) := of_decide_eq_true (by first | (with_reducible assumption) | assumption)
                have q112 : x5_1 < (l1.length : Int) := of_decide_eq_true (by first | (with_reducible assumption) | assumption)
                obtain ⟨ad112, e112, hx112_0, hx112_1⟩ := at_T46 HR1.out x5_1 p112 q112
                cases e112
                replace p112 := eq_true p112
                replace q112 := eq_true q112
                go_wp2
                repeat (go_quiet (fail); try go_wp2)
                go_roundg k1
                case measure => have := HK1.out; omega
                case rel => exact ⟨(wrap64 (x5_1 + 1)), (by first | rfl | (simp; done) | (simp [*]; done)), H', ⟨by have := HK1.out; omega⟩, by repeat (first | exact Drawn0.refl _ | apply Drawn0.step)⟩
            · rw [if_neg c6] at H
              exact absurd H (by simp)
          · rw [if_neg c5] at H
            exact absurd H (by simp)
        · rw [if_neg c4] at H
          have c4b0 : decide (x5_1 < (l0.length : Int)) = false := decide_eq_false c4
          clear c4
          obtain rfl := Option.some.inj H
          go_wp2
          repeat (go_quiet (fail); try go_wp2)
          go_ret
          exact ⟨by first | rfl | (simp; done) | (simp [*]; done), by repeat (first | exact Drawn0.refl _ | apply Drawn0.step)⟩
  · rw [if_neg c3] at H
    have c3b0 : ((l0.length : Int) == (l1.length : Int)) = false := beq_eq_false_iff_ne.mpr c3
    have c3b1 : ((l0.length : Int) != (l1.length : Int)) = true := bne_iff_ne.mpr c3
    have c3b2 : (l0.length == l1.length) = false := by first | simpa using c3 | (simp at c3 ⊢; omega)
    obtain rfl := Option.some.inj H
    go_enter Tryd.func20, Tryd.ntmps20
    go_wp2
    repeat (go_quiet (fail); try go_wp2)
    go_ret
    exact ⟨by first | rfl | (simp; done) | (simp [*]; done), by repeat (first | exact Drawn0.refl _ | apply Drawn0.step)⟩
end Go.Proofs.YtnhcpflenajeaaaDoor.PCrowdMost

/- The examples that each law asks for: alive returns true. -/
set_option linter.unusedVariables false
set_option linter.unusedSimpArgs false
namespace Go.Proofs.YtnhcpflenajeaaaDoor
open Go.RowKit Go.Proofs.YtnhcpflenajeaaaDoorW.PrintWords Go.Proofs.YtnhcpflenajeaaaDoorW.PrintMore PCrowdMost Mem

/-- A row that a literal made. -/
theorem lit_row {α : Type} {d : Kd α} {X : World} {cs : Array Value} {t : TypeId} {xs : List α} (h : Reps (d.K (X.alloc (.cells cs t (0, 0)))) d.sz xs cs.toList) (hl : xs.length ≤ 1000) : Kd.C d (X.alloc (.cells cs t (0, 0))) (some ⟨X.heap.size, 0, none⟩) xs.length xs := by
  refine ⟨rfl, by omega, fun _ => ⟨_, rfl, fun j p hj => ⟨_, d.K_len (h.2 j p hj), h.2 j p hj, fun i u hu => ?_⟩⟩⟩
  rw [List.getElem?_take] at hu
  split at hu
  · rw [List.getElem?_drop] at hu
    have e : (⟨X.heap.size, 0, none⟩ : Addr).add (j * d.sz + i) = ⟨X.heap.size, j * d.sz + i, none⟩ := by simp [Addr.add]; omega
    rw [e]
    refine cell_new' _ _ _ rfl ?_
    simpa using hu
  · simp at hu
theorem two_moves (X : World) (a b : S56) : Kd.C k56 (X.alloc (.cells #[.int .i64 a.f0, .int .i64 a.f1, .int .i64 a.f2, .int .i64 b.f0, .int .i64 b.f1, .int .i64 b.f2] 56 (0, 0))) (some ⟨X.heap.size, 0, none⟩) 2 [a, b] :=
  lit_row (xs := [a, b]) (Reps.c3 (k56_mk _ a) (Reps.c3 (k56_mk _ b) (Reps.none _ _))) (by simp)
theorem three_stands (X : World) (a b c : S46) : Kd.C k46 (X.alloc (.cells #[.int .i64 a.f0, .int .i64 a.f1, .int .i64 b.f0, .int .i64 b.f1, .int .i64 c.f0, .int .i64 c.f1] 46 (0, 0))) (some ⟨X.heap.size, 0, none⟩) 3 [a, b, c] :=
  lit_row (xs := [a, b, c]) (Reps.c2 (k46_mk _ a) (Reps.c2 (k46_mk _ b) (Reps.c2 (k46_mk _ c) (Reps.none _ _)))) (by simp)

theorem sample_any (w : World) : Calls Tryd.prog 28 #[] w fun e w' => ∃ A0 A1 A2 c0 c1 c2, e = .returned (.agg #[.slice A0 3 c0, .slice A1 3 c1, .slice A2 2 c2]) ∧ VisAt w' smp A0 A1 A2 c0 c1 c2 ∧ Below w.heap.size w w' := by
  refine (geyseritelaw09_sample.calls smp.rooms smp.trails smp.arrivals w rfl).mono ?_
  rintro e w' ⟨v0, v1, v2, rfl, h0, h1, h2, hb⟩
  obtain ⟨A0, c0, rfl⟩ := Kd.R_slice h0
  obtain ⟨A1, c1, rfl⟩ := Kd.R_slice h1
  obtain ⟨A2, c2, rfl⟩ := Kd.R_slice h2
  exact ⟨A0, A1, A2, c0, c1, c2, rfl, ⟨(Kd.R_reads' h0).2.2, (Kd.R_reads' h0).2.1, (Kd.R_reads' h1).2.2, (Kd.R_reads' h1).2.1, (Kd.R_reads' h2).2.2, (Kd.R_reads' h2).2.1⟩, hb⟩
theorem small_any (w : World) : Calls Tryd.prog 29 #[] w fun e w' => ∃ A0 A1 A2 c0 c1 c2, e = .returned (.agg #[.slice A0 2 c0, .slice A1 1 c1, .slice A2 1 c2]) ∧ VisAt w' sml A0 A1 A2 c0 c1 c2 ∧ Below w.heap.size w w' := by
  refine (geyseritelaw09_small.calls sml.rooms sml.trails sml.arrivals w rfl).mono ?_
  rintro e w' ⟨v0, v1, v2, rfl, h0, h1, h2, hb⟩
  obtain ⟨A0, c0, rfl⟩ := Kd.R_slice h0
  obtain ⟨A1, c1, rfl⟩ := Kd.R_slice h1
  obtain ⟨A2, c2, rfl⟩ := Kd.R_slice h2
  exact ⟨A0, A1, A2, c0, c1, c2, rfl, ⟨(Kd.R_reads' h0).2.2, (Kd.R_reads' h0).2.1, (Kd.R_reads' h1).2.2, (Kd.R_reads' h1).2.1, (Kd.R_reads' h2).2.2, (Kd.R_reads' h2).2.1⟩, hb⟩
theorem alive_stands : geyseriteref09_Stands.f 10 [⟨0, 0⟩, ⟨0, 1⟩, ⟨0, 2⟩] [⟨0, 0⟩, ⟨0, 1⟩, ⟨0, 2⟩] = some true := by decide +kernel

set_option maxRecDepth 100000 in
set_option maxHeartbeats 2000000 in
theorem alive_any (w : World) (hG : Glob w ∧ 2 ≤ w.heap.size) : Calls Tryd.prog 13 #[] w fun e w' => e = .returned (.bool true) ∧ Below w.heap.size w w' := by
  have HG := Lib.hid hG
  clear hG
  go_enter Tryd.func13, Tryd.ntmps13
  go_wp2_with fail
  refine (sample_any _).mono ?_
  rintro e w1 ⟨A0, A1, A2, c0, c1, c2, rfl, hv, hb⟩
  have HB1 := Lib.hid hb
  have HV1 := Lib.hid hv
  clear hv hb
  go_wp2_with fail
  refine (crowd_Most.calls A0 c0 smp.rooms A1 c1 smp.trails A2 c2 smp.arrivals 2 9 52 0 _ HV1.out.r0 HV1.out.k0 HV1.out.r1 HV1.out.k1 HV1.out.r2 HV1.out.k2 (glob_later HG.out HB1.out) smp_most9).mono ?_
  rintro e w2 ⟨rfl, hb⟩
  have HB2 := Lib.hid (HB1.out.trans (hb.mono HB1.out.size))
  clear hb HV1 HB1
  go_wp2_with fail
  refine (small_any _).mono ?_
  rintro e w3 ⟨A0, A1, A2, c0, c1, c2, rfl, hv, hb⟩
  have HB3 := Lib.hid (HB2.out.trans (hb.mono HB2.out.size))
  have HV3 := Lib.hid hv
  clear hv hb HB2
  go_wp2_with fail
  refine (crowd_Wall.calls A0 c0 sml.rooms A1 c1 sml.trails A2 c2 sml.arrivals 1 2 [⟨0, 0⟩, ⟨0, 1⟩, ⟨0, 2⟩] 0 _ HV3.out.r0 HV3.out.k0 HV3.out.r1 HV3.out.k1 HV3.out.r2 HV3.out.k2 (glob_later HG.out HB3.out) sml_wall).mono ?_
  rintro e w4 ⟨u, rfl, hR, hb⟩
  obtain ⟨Aw, cw, rfl⟩ := Kd.R_slice hR
  have HW4 := Lib.hid (Kd.R_reads' hR)
  have HB4 := Lib.hid (HB3.out.trans (hb.mono HB3.out.size))
  clear hR hb HV3 HB3
  go_wp2_with fail
  refine (sample_any _).mono ?_
  rintro e w5 ⟨A0, A1, A2, c0, c1, c2, rfl, hv, hb⟩
  have HW5 := Lib.hid (Kd.C_below HW4.out.2.2 hb)
  have HB5 := Lib.hid (HB4.out.trans (hb.mono HB4.out.size))
  have HV5 := Lib.hid hv
  have HC5 := Lib.hid HW4.out.2.1
  clear hv hb HB4 HW4
  go_wp2_with fail
  have hb6 : Below w5.heap.size w5 (w5.alloc (.cells #[.int .i64 0, .int .i64 0, .int .i64 10, .int .i64 2, .int .i64 1, .int .i64 8] 56)) := (Below.refl _ _).alloc (Nat.le_refl _) _
  refine (crowd_See.calls A0 c0 smp.rooms A1 c1 smp.trails A2 c2 smp.arrivals (some ⟨w5.heap.size, 0, none⟩) 2 [⟨0, 0, 10⟩, ⟨2, 1, 8⟩] 2 5 8 2 0 _ (Kd.C_below HV5.out.r0 hb6) HV5.out.k0 (Kd.C_below HV5.out.r1 hb6) HV5.out.k1 (Kd.C_below HV5.out.r2 hb6) HV5.out.k2 (two_moves w5 ⟨0, 0, 10⟩ ⟨2, 1, 8⟩) (Nat.le_refl _) smp_see8).mono ?_
  rintro e w7 ⟨rfl, hb⟩
  have hb7 := hb6.trans (hb.mono (by simp))
  have HW7 := Lib.hid (Kd.C_below HW5.out hb7)
  have HB7 := Lib.hid (HB5.out.trans (hb7.mono HB5.out.size))
  clear hb hb6 hb7 HB5 HV5 HW5
  go_wp2_with fail
  have hb8 : Below w7.heap.size w7 (w7.alloc (.cells #[.int .i64 0, .int .i64 0, .int .i64 0, .int .i64 1, .int .i64 0, .int .i64 2] 46)) := (Below.refl _ _).alloc (Nat.le_refl _) _
  refine (geyseriteref09_Stands.calls 10 Aw cw [⟨0, 0⟩, ⟨0, 1⟩, ⟨0, 2⟩] (some ⟨w7.heap.size, 0, none⟩) 3 [⟨0, 0⟩, ⟨0, 1⟩, ⟨0, 2⟩] true _ (Kd.C_below HW7.out hb8) HC5.out (three_stands w7 ⟨0, 0⟩ ⟨0, 1⟩ ⟨0, 2⟩) (Nat.le_refl _) alive_stands).mono ?_
  rintro e w9 ⟨rfl, hd⟩
  have HB9 := Lib.hid (HB7.out.trans ((hb8.trans (hd.below.mono (by simp))).mono HB7.out.size))
  clear hd hb8
  go_wp2_with fail
  refine bodyPost_ret (results_tmp rfl _ _ _) rfl ?_
  exact ⟨rfl, HB9.out⟩
end Go.Proofs.YtnhcpflenajeaaaDoor

/- alive in the print's form: it returns true. -/
set_option linter.unusedVariables false
namespace Go.Proofs.YtnhcpflenajeaaaDoor.PCrowdMost
open Go.RowKit Go.Proofs.YtnhcpflenajeaaaDoorW.PrintWords
def geyseritelaw09_alive.f (k : Nat) : Option Bool := some true
theorem geyseritelaw09_alive.mono (k : Nat) : LeO (geyseritelaw09_alive.f k) (geyseritelaw09_alive.f (k + 1)) := LeO.refl _
theorem geyseritelaw09_alive.calls (k : Nat) (r : Bool) (w : World) (hG : Glob w ∧ 2 ≤ w.heap.size) (h : geyseritelaw09_alive.f k = some r) :
    Calls Tryd.prog 13 #[] w fun e w' => e = .returned (.bool r) ∧ Below w.heap.size w w' := by
  obtain rfl : true = r := Option.some.inj h
  exact alive_any w hG
end Go.Proofs.YtnhcpflenajeaaaDoor.PCrowdMost
