/- 'newNetwork': the network of a visit. -/
import Derived.Test.YtnhcpflenajeaaaDoorJReach
import Derived.Deep.LoopGhost
import Derived.Deep.RegionHeld3
import Derived.IntWalk
import Derived.Laws.EntriesVeiled
import Derived.Maps.OwnIn
set_option linter.unusedVariables false
set_option linter.unusedSimpArgs false
namespace Go.Proofs.YtnhcpflenajeaaaDoor
open Go.RowKit Go.Proofs.YtnhcpflenajeaaaDoorW.PrintWords Go.Proofs.YtnhcpflenajeaaaDoorW.PrintMore PCrowdMost Mem

theorem at_any (p t : Int) (w : World) : Calls Tryd.prog 52 #[.int .i64 p, .int .i64 t] w fun e w' => e = .returned (.agg #[.int .i64 p, .int .i64 t, .int .i64 0]) ∧ w' = w.alloc (.cells #[.int .i64 p, .int .i64 t, .int .i64 0] 89) := by
  go_enter Tryd.func52, Tryd.ntmps52
  go_wp2
  refine bodyPost_ret (results_cell_row rfl _ _ w.heap.size 89 #[.int .i64 p, .int .i64 t, .int .i64 0] (0, 0) _ rfl (heap_new' w _ _ rfl) Tryd.underlying89 rfl (by kernel_rfl)) rfl ?_
  exact ⟨rfl, rfl⟩

theorem cell_of_heap {w : World} {k : Nat} {cs : Array Value} {t : TypeId} {fz : Nat × Nat} (h : w.heap[k]? = some (.cells cs t fz)) (j : Nat) (v : Value) (hj : cs[j]? = some v) : w.cell? ⟨k, j, none⟩ = some v := by
  unfold World.cell?
  rw [h]
  exact hj
theorem cell_drew' {w : World} {a : Addr} {v : Value} (h : w.cell? a = some v) : w.drew.cell? a = some v := h

/-- The network so far. -/
structure NN (W2 : World) (base : Nat) (A : List Arc) (X : World) : Prop where
  net : ∃ bs f top, NetMem X base top base A bs f
  bel : Below base W2 X
theorem NN.fr {W2 X Y : World} {base : Nat} {A : List Arc} (h : NN W2 base A X) (hf : Fr (fun _ => False) X Y) : NN W2 base A Y := by
  obtain ⟨⟨bs, f, top, hn⟩, hb⟩ := h
  exact ⟨⟨bs, f, top, hn.fr hf (fun _ _ _ h => h)⟩, hb.trans (hf.below (by have := hn.rm.size; have := hn.rm.hi; omega) (fun _ _ h => h))⟩
theorem NN.lt {W2 X : World} {base : Nat} {A : List Arc} (h : NN W2 base A X) : base < X.heap.size := by
  obtain ⟨⟨bs, f, top, hn⟩, hb⟩ := h
  have := hn.rm.size; have := hn.rm.hi; omega

theorem add_nn (W2 : World) (base : Nat) (A : List Arc) (X w : World) (fr : Knot) (room : Int) (kt : Knot) (gt : Nat) (c : Nat) (h : NN W2 base A X) (hA : A.length ≤ 1000000) (hf : Fr (fun _ => False) X w)
    (h0 : w.cell? ⟨gt, 0, none⟩ = some (.int .i64 kt.p)) (h1 : w.cell? ⟨gt, 1, none⟩ = some (.int .i64 kt.m)) (h2 : w.cell? ⟨gt, 2, none⟩ = some (.int .i64 kt.e)) :
    Calls Tryd.prog 53 #[.map (some base), .agg #[.int .i64 fr.p, .int .i64 fr.m, .int .i64 fr.e], .int .i64 room, .slice (some ⟨gt, 0, none⟩) 1 c] w fun e w' => e = .returned (.tuple #[]) ∧ NN W2 base (A ++ two fr kt room) w' ∧ (∀ (k : Nat) (cs : Array Value) (t : TypeId) (fz : Nat × Nat), w.heap[k]? = some (Obj.cells cs t fz) → t ≠ 99 → w'.heap[k]? = some (Obj.cells cs t fz)) := by
  obtain ⟨⟨bs, f, top, hn⟩, hb⟩ := h.fr hf
  refine (add_any base top base A bs f fr room kt gt c w hn hA h0 h1 h2).mono ?_
  rintro e w' ⟨rfl, f', bs', hn', hb', hk'⟩
  exact ⟨rfl, ⟨⟨_, _, _, hn'⟩, hb.trans hb'⟩, hk'⟩

set_option maxRecDepth 100000 in
set_option maxHeartbeats 2000000 in
theorem newNet_any (v : Vis) (A0 A1 A2 : Option Addr) (c0 c1 c2 : Nat) (place minute : Int) (w : World) (hv : VisAt w v A0 A1 A2 c0 c1 c2) (hok : v.Ok) (hG : Glob w) (hp : 0 ≤ place ∧ place < v.rooms.length) (hm : 0 ≤ minute ∧ minute ≤ 60) :
    Calls Tryd.prog 40 #[.agg #[.slice A0 v.rooms.length c0, .slice A1 v.trails.length c1, .slice A2 v.arrivals.length c2], .agg #[.int .i64 place, .int .i64 minute]] w fun e w' =>
      e = .returned (.map (some (w.heap.size + 2))) ∧ (∃ bs f top, NetMem w' (w.heap.size + 2) top (w.heap.size + 2) (netArcs v place minute) bs f) ∧ Below w.heap.size w w' := by
  have HV := Lib.hid hv
  have HOK := Lib.hid hok
  have HG := Lib.hid hG
  clear hv hok hG
  have hmm := @run_makeMap Tryd.prog
  have hn1 := HOK.out.n1
  have hn8 := HOK.out.n8
  have ht16 := HOK.out.t16
  have ha16 := HOK.out.a16
  obtain ⟨nr, hnr⟩ : ∃ n, v.rooms.length = n := ⟨_, rfl⟩
  obtain ⟨nt, hnt⟩ : ∃ n, v.trails.length = n := ⟨_, rfl⟩
  obtain ⟨na, hna⟩ : ∃ n, v.arrivals.length = n := ⟨_, rfl⟩
  rw [hnr] at hn1 hn8 hp ⊢
  rw [hnt] at ht16 ⊢
  rw [hna] at ha16 ⊢
  obtain ⟨W2, hW2⟩ : ∃ W2, W2 = (w.alloc (.cells #[.slice A0 nr c0, .slice A1 nt c1, .slice A2 na c2] 26)).alloc (.cells #[.int .i64 place, .int .i64 minute] 46) := ⟨_, rfl⟩
  have hW2s : W2.heap.size = w.heap.size + 2 := by rw [hW2]; simp
  have hFW : Fr (fun _ => False) w W2 := by rw [hW2]; exact ((Fr.refl _ w).alloc _).alloc _
  have HB0 : Hid (∀ X, Below (w.heap.size + 2) W2 X → X.heap[w.heap.size]? = some (.cells #[.slice A0 nr c0, .slice A1 nt c1, .slice A2 na c2] 26) ∧ X.heap[w.heap.size + 1]? = some (.cells #[.int .i64 place, .int .i64 minute] 46)) := by
    intro X hX
    rw [hX.block _ (by omega), hX.block _ (by omega), hW2]
    exact ⟨heap_old _ _ (heap_new' w _ _ rfl), heap_new' _ _ _ (by simp)⟩
  have HBO : Hid (∀ X, Below (w.heap.size + 2) W2 X → ∀ a u, w.cell? a = some u → X.cell? a = some u) := by
    intro X hX a u ha
    have hl := World.block_lt_of_cell? w a ha
    exact (World.cell?_of_block ((hX.block _ (by omega)).trans (hFW.block _ hl (fun h => h)))).trans ha
  have HW2 := Lib.hid hW2
  have HN0 : Hid (NN W2 (w.heap.size + 2) [] (W2.alloc (.map #[] 0))) := by
    have h := NetMem.new W2 (w.heap.size + 2) (by omega)
    rw [hW2s] at h
    exact ⟨⟨_, _, _, h⟩, (Below.refl _ W2).alloc (by omega) _⟩
  clear hW2
  go_enter Tryd.func40, Tryd.ntmps40
  go_wp2
  go_loopg [18] (minute + 1).toNat (fun g v18 X => ∃ t : Nat, g + t = (minute + 1).toNat ∧ v18 = .int .i64 (t : Int) ∧ NN W2 (w.heap.size + 2) (upto (minuteArcs v minute) t) X)
  case atStart => exact ⟨0, rfl, rfl, by have h := HN0.out; rw [HW2.out] at h ⊢; exact h⟩
  case round =>
    obtain ⟨t, hgt, rfl, hN⟩ := hrel
    have HN := Lib.hid hN
    clear hN HN0
    have hb := HB0.out _ HN.out.bel
    have b0 : wr.cell? ⟨w.heap.size, 0, none⟩ = some (.slice A0 nr c0) := by simp [World.cell?, hb.1]
    have b1 : wr.cell? ⟨w.heap.size, 1, none⟩ = some (.slice A1 nt c1) := by simp [World.cell?, hb.1]
    have b2 : wr.cell? ⟨w.heap.size, 2, none⟩ = some (.slice A2 na c2) := by simp [World.cell?, hb.1]
    have b3 : wr.cell? ⟨w.heap.size + 1, 0, none⟩ = some (.int .i64 place) := by simp [World.cell?, hb.2]
    have b4 : wr.cell? ⟨w.heap.size + 1, 1, none⟩ = some (.int .i64 minute) := by simp [World.cell?, hb.2]
    clear hb
    by_cases ht : (t : Int) < minute + 1
    · have ht60 : t ≤ 60 := by omega
      have hA0 : (upto (minuteArcs v minute) t).length ≤ 3000 := by
        have h1 := upto_length (minuteArcs v minute) 48 (fun i => by have := minuteArcs_length v minute i; omega) t
        omega
      go_wp2
      obtain ⟨wo, rfl⟩ : ∃ wo : World, wo = wr := ⟨_, rfl⟩
      go_loopg [24] nr (fun g v24 X => ∃ p : Nat, g + p = nr ∧ v24 = .int .i64 (p : Int) ∧ NN W2 (w.heap.size + 2) (upto (minuteArcs v minute) t ++ upto (roomArc v minute t) p) X)
      case atStart => exact ⟨0, rfl, rfl, by simpa [upto_zero] using HN.out⟩
      case round =>
        obtain ⟨p, hgp, rfl, hN1⟩ := hrel
        have HN1 := Lib.hid hN1
        clear hN1
        have hb := HB0.out _ HN1.out.bel
        have d0 : wr.cell? ⟨w.heap.size, 0, none⟩ = some (.slice A0 nr c0) := by simp [World.cell?, hb.1]
        have d1 : wr.cell? ⟨w.heap.size, 1, none⟩ = some (.slice A1 nt c1) := by simp [World.cell?, hb.1]
        have d2 : wr.cell? ⟨w.heap.size, 2, none⟩ = some (.slice A2 na c2) := by simp [World.cell?, hb.1]
        have d3 : wr.cell? ⟨w.heap.size + 1, 0, none⟩ = some (.int .i64 place) := by simp [World.cell?, hb.2]
        have d4 : wr.cell? ⟨w.heap.size + 1, 1, none⟩ = some (.int .i64 minute) := by simp [World.cell?, hb.2]
        clear hb
        by_cases hpn : p < nr
        · obtain ⟨ad, hA0', hcell⟩ := Kd.at_int HV.out.r0 (p : Int) (by omega) (by omega)
          subst hA0'
          have hcx := HBO.out _ HN1.out.bel _ _ hcell
          simp only [Int.toNat_natCast] at hcx
          have hroom := HOK.out.room p (by omega) (by omega)
          have hlx : (upto (minuteArcs v minute) t ++ upto (roomArc v minute t) p).length ≤ 1000000 := by
            have := upto_length (roomArc v minute t) 2 (roomArc_length v minute t) p
            rw [List.length_append]; omega
          clear hcell
          by_cases htm : (t : Int) < minute
          · have HR : Hid (roomArc v minute t p = two (kn p t) (kn p (t + 1)) (rd v.rooms p)) := by simp [Hid, roomArc, htm]
            go_wp2_with (first
              | (go_at_call 52; refine (at_any _ _ _).mono ?_; rintro e w' ⟨rfl, rfl⟩)
              | (go_at_call 53; refine (add_nn W2 (w.heap.size + 2) _ wr _ (kn p t) (rd v.rooms p) (kn p (t + 1)) _ _ HN1.out hlx ?hf ?h0 ?h1 ?h2).mono ?hK; (case hf => exact (((Fr.refl _ wr).alloc _).alloc _).alloc _); (case h0 => exact cell_new' _ _ _ (by simp) rfl); (case h1 => exact cell_new' _ _ _ (by simp) rfl); (case h2 => exact cell_new' _ _ _ (by simp) rfl); rintro e w' ⟨rfl, hnn, _⟩; have HNN := Lib.hid hnn; clear hnn))
            go_roundg (nr - (p + 1))
            case measure => omega
            case rel => exact ⟨p + 1, by omega, by go_num, by rw [upto_succ, ← List.append_assoc, HR.out]; exact HNN.out⟩
          · have HR : Hid (roomArc v minute t p = []) := by simp [Hid, roomArc, htm]
            go_wp2
            go_roundg (nr - (p + 1))
            case measure => omega
            case rel => exact ⟨p + 1, by omega, by go_num, by rw [upto_succ, HR.out, List.append_nil]; exact HN1.out⟩
        · have hpe : p = nr := by omega
          subst hpe
          go_wp2
          obtain ⟨wi, rfl⟩ : ∃ wi : World, wi = wr := ⟨_, rfl⟩
          go_loopg [50] nt (fun g v50 X => ∃ i : Nat, g + i = nt ∧ v50 = .int .i64 (i : Int) ∧ NN W2 (w.heap.size + 2) (upto (minuteArcs v minute) t ++ upto (roomArc v minute t) p ++ upto (trailArc v minute t) i) X)
          case atStart => exact ⟨0, rfl, rfl, by simpa [upto_zero] using HN1.out⟩
          case round =>
            obtain ⟨i, hgi, rfl, hN2⟩ := hrel
            have HN2 := Lib.hid hN2
            clear hN2
            have hb := HB0.out _ HN2.out.bel
            have f3 : wr.cell? ⟨w.heap.size + 1, 0, none⟩ = some (.int .i64 place) := by simp [World.cell?, hb.2]
            have f4 : wr.cell? ⟨w.heap.size + 1, 1, none⟩ = some (.int .i64 minute) := by simp [World.cell?, hb.2]
            have hsz := HN2.out.lt
            have hsz1 : w.heap.size + 1 < wr.heap.size := by omega
            clear hb
            by_cases hin : i < nt
            · obtain ⟨ad, hA1', q0, q1, q2, q3⟩ := at_T51 HV.out.r1 (i : Int) (by omega) (by omega)
              subst hA1'
              replace q0 := HBO.out _ HN2.out.bel _ _ q0
              replace q1 := HBO.out _ HN2.out.bel _ _ q1
              replace q2 := HBO.out _ HN2.out.bel _ _ q2
              replace q3 := HBO.out _ HN2.out.bel _ _ q3
              simp only [Int.toNat_natCast] at q0 q1 q2 q3
              have htr := HOK.out.trail (i : Int) (by omega) (by omega)
              have hTR := Lib.hid (rfl : trailArc v minute t i = trailArc v minute t i)
              obtain ⟨x, hx⟩ : ∃ x, rd_T51 v.trails (i : Int) = x := ⟨_, rfl⟩
              rw [hx] at q0 q1 q2 q3 htr
              obtain ⟨⟨h00, h01⟩, ⟨h10, h11⟩, hne, ⟨h20, h21⟩, ⟨h30, h31⟩⟩ := htr
              have hlx : (upto (minuteArcs v minute) t ++ upto (roomArc v minute t) p ++ upto (trailArc v minute t) i).length ≤ 1000000 := by
                have := upto_length (roomArc v minute t) 2 (roomArc_length v minute t) p
                have := upto_length (trailArc v minute t) 2 (trailArc_length v minute t) i
                rw [List.length_append, List.length_append]; omega
              have HX := Lib.hid hx
              clear hx
              by_cases htm : (t : Int) + x.f2 ≤ minute
              · have HR : Hid (trailArc v minute t i = two (kn x.f0 t) (kn x.f1 (t + x.f2)) x.f3) := by simp [Hid, trailArc, HX.out, htm]
                have hwr : IntKind.i64.wrap ((t : Int) + x.f2) = t + x.f2 := IntWalk.i64_in _ (by omega)
                go_wp2
                have r0 : (wr.alloc (.cells #[.int .i64 x.f0, .int .i64 x.f1, .int .i64 x.f2, .int .i64 x.f3] 51)).cell? ⟨wr.heap.size, 0, none⟩ = some (.int .i64 x.f0) := cell_new' _ _ _ rfl rfl
                have r1 : (wr.alloc (.cells #[.int .i64 x.f0, .int .i64 x.f1, .int .i64 x.f2, .int .i64 x.f3] 51)).cell? ⟨wr.heap.size, 1, none⟩ = some (.int .i64 x.f1) := cell_new' _ _ _ rfl rfl
                have r2 : (wr.alloc (.cells #[.int .i64 x.f0, .int .i64 x.f1, .int .i64 x.f2, .int .i64 x.f3] 51)).cell? ⟨wr.heap.size, 2, none⟩ = some (.int .i64 x.f2) := cell_new' _ _ _ rfl rfl
                have r3 : (wr.alloc (.cells #[.int .i64 x.f0, .int .i64 x.f1, .int .i64 x.f2, .int .i64 x.f3] 51)).cell? ⟨wr.heap.size, 3, none⟩ = some (.int .i64 x.f3) := cell_new' _ _ _ rfl rfl
                go_region_held3 (fun W => W.cell? ⟨wr.heap.size, 0, none⟩ = some (.int .i64 x.f0) ∧ W.cell? ⟨wr.heap.size, 1, none⟩ = some (.int .i64 x.f1) ∧ W.cell? ⟨wr.heap.size, 2, none⟩ = some (.int .i64 x.f2) ∧ W.cell? ⟨wr.heap.size, 3, none⟩ = some (.int .i64 x.f3))
                  (first | exact ⟨r0, r1, r2, r3⟩ | exact ⟨k0, k1, k2, k3⟩ | (refine ⟨?_, ?_, ?_, ?_⟩ <;> (repeat (first | exact r0 | exact r1 | exact r2 | exact r3 | refine cell_alloc' _ ?_))) | go_keep)
                  (first
                    | (go_at_call 52; refine (at_any _ _ _).mono ?_; rintro e w' ⟨rfl, rfl⟩)
                    | (go_at_call 53; refine (add_nn W2 (w.heap.size + 2) _ wr _ (kn x.f0 t) x.f3 (kn x.f1 (t + x.f2)) _ _ HN2.out hlx ?_ ?_ ?_ ?_).mono ?_; (exact (((((Fr.refl _ wr).alloc _).alloc _).alloc _).alloc _).drew); (first | exact cell_drew' (cell_new' _ _ _ (by simp) rfl) | exact cell_drew' (cell_alloc' _ (cell_new' _ _ _ (by simp) rfl))); (first | exact cell_drew' (cell_new' _ _ _ (by simp) rfl) | exact cell_drew' (cell_alloc' _ (cell_new' _ _ _ (by simp) rfl))); (first | exact cell_drew' (cell_new' _ _ _ (by simp) rfl) | exact cell_drew' (cell_alloc' _ (cell_new' _ _ _ (by simp) rfl))); rintro e w' ⟨rfl, hnn, hkp⟩; have HNN := Lib.hid hnn; have hbx := hkp wr.heap.size #[.int .i64 x.f0, .int .i64 x.f1, .int .i64 x.f2, .int .i64 x.f3] 51 (0, 0) (by first | exact heap_old _ _ (heap_old _ _ (heap_old _ _ (heap_new' wr _ _ rfl)))) (by decide); have k0 := cell_of_heap hbx 0 _ rfl; have k1 := cell_of_heap hbx 1 _ rfl; have k2 := cell_of_heap hbx 2 _ rfl; have k3 := cell_of_heap hbx 3 _ rfl; clear hnn hkp))
                all_goals
                  go_wp2
                  go_roundg (nt - (i + 1))
                  case measure => omega
                  case rel => exact ⟨i + 1, by omega, by go_num, by rw [upto_succ, HR.out, ← List.append_assoc]; exact HNN.out⟩
              · have HR : Hid (trailArc v minute t i = []) := by simp [Hid, trailArc, HX.out, htm]
                go_wp2
                go_roundg (nt - (i + 1))
                case measure => omega
                case rel => exact ⟨i + 1, by omega, by go_num, by rw [upto_succ, HR.out, List.append_nil]; exact HN2.out.fr ((Fr.refl _ wr).alloc _)⟩
            · have hie : i = nt := by omega
              subst hie
              go_wp2
              go_roundg ((minute + 1).toNat - (t + 1))
              case measure => omega
              case rel =>
                refine ⟨t + 1, by omega, by go_num, ?_⟩
                rw [upto_succ, minuteArcs, hnr, hnt, ← List.append_assoc]
                exact HN2.out
    · have hte : t = (minute + 1).toNat := by omega
      subst hte
      have hA0 : (upto (minuteArcs v minute) (minute + 1).toNat).length ≤ 3000 := by
        have h1 := upto_length (minuteArcs v minute) 48 (fun i => by have := minuteArcs_length v minute i; omega) (minute + 1).toNat
        omega
      go_wp2
      obtain ⟨wo, rfl⟩ : ∃ wo : World, wo = wr := ⟨_, rfl⟩
      go_loopg [84] na (fun g v84 X => ∃ i : Nat, g + i = na ∧ v84 = .int .i64 (i : Int) ∧ NN W2 (w.heap.size + 2) (upto (minuteArcs v minute) (minute + 1).toNat ++ upto (arrArc v minute) i) X)
      case atStart => exact ⟨0, rfl, rfl, by simpa [upto_zero] using HN.out⟩
      case round =>
        obtain ⟨i, hgi, rfl, hN1⟩ := hrel
        have HN1 := Lib.hid hN1
        clear hN1
        have hb := HB0.out _ HN1.out.bel
        have d0 : wr.cell? ⟨w.heap.size, 0, none⟩ = some (.slice A0 nr c0) := by simp [World.cell?, hb.1]
        have d1 : wr.cell? ⟨w.heap.size, 1, none⟩ = some (.slice A1 nt c1) := by simp [World.cell?, hb.1]
        have d2 : wr.cell? ⟨w.heap.size, 2, none⟩ = some (.slice A2 na c2) := by simp [World.cell?, hb.1]
        have d3 : wr.cell? ⟨w.heap.size + 1, 0, none⟩ = some (.int .i64 place) := by simp [World.cell?, hb.2]
        have d4 : wr.cell? ⟨w.heap.size + 1, 1, none⟩ = some (.int .i64 minute) := by simp [World.cell?, hb.2]
        have hsz := HN1.out.lt
        have hsz1 : w.heap.size + 1 < wr.heap.size := by omega
        have hsz0 : 0 < wr.heap.size := by omega
        have s0 := HBO.out _ HN1.out.bel _ _ HG.out.s0
        have s1 := HBO.out _ HN1.out.bel _ _ HG.out.s1
        have s2 := HBO.out _ HN1.out.bel _ _ HG.out.s2
        clear hb
        have hlx : (upto (minuteArcs v minute) (minute + 1).toNat ++ upto (arrArc v minute) i).length ≤ 1000000 := by
          have := upto_length (arrArc v minute) 2 (arrArc_length v minute) i
          rw [List.length_append]; omega
        by_cases hin : i < na
        · obtain ⟨ad, hA2', q0, q1, q2⟩ := at_T49 HV.out.r2 (i : Int) (by omega) (by omega)
          subst hA2'
          replace q0 := HBO.out _ HN1.out.bel _ _ q0
          replace q1 := HBO.out _ HN1.out.bel _ _ q1
          replace q2 := HBO.out _ HN1.out.bel _ _ q2
          simp only [Int.toNat_natCast] at q0 q1 q2
          have htr := HOK.out.arr (i : Int) (by omega) (by omega)
          obtain ⟨x, hx⟩ : ∃ x, rd_T49 v.arrivals (i : Int) = x := ⟨_, rfl⟩
          rw [hx] at q0 q1 q2 htr
          obtain ⟨⟨h00, h01⟩, ⟨h10, h11⟩, ⟨h20, h21⟩⟩ := htr
          have HX := Lib.hid hx
          clear hx
          by_cases htm : x.f0 ≤ minute
          · have HR : Hid (arrArc v minute i = two src0 (kn x.f1 x.f0) x.f2) := by simp [Hid, arrArc, HX.out, htm]
            go_wp2
            have r0 : (wr.alloc (.cells #[.int .i64 x.f0, .int .i64 x.f1, .int .i64 x.f2] 49)).cell? ⟨wr.heap.size, 0, none⟩ = some (.int .i64 x.f0) := cell_new' _ _ _ rfl rfl
            have r1 : (wr.alloc (.cells #[.int .i64 x.f0, .int .i64 x.f1, .int .i64 x.f2] 49)).cell? ⟨wr.heap.size, 1, none⟩ = some (.int .i64 x.f1) := cell_new' _ _ _ rfl rfl
            have r2 : (wr.alloc (.cells #[.int .i64 x.f0, .int .i64 x.f1, .int .i64 x.f2] 49)).cell? ⟨wr.heap.size, 2, none⟩ = some (.int .i64 x.f2) := cell_new' _ _ _ rfl rfl
            go_region_held3 (fun W => W.cell? ⟨wr.heap.size, 0, none⟩ = some (.int .i64 x.f0) ∧ W.cell? ⟨wr.heap.size, 1, none⟩ = some (.int .i64 x.f1) ∧ W.cell? ⟨wr.heap.size, 2, none⟩ = some (.int .i64 x.f2) ∧ W.cell? ⟨0, 0, none⟩ = some (.int .i64 0) ∧ W.cell? ⟨0, 1, none⟩ = some (.int .i64 0) ∧ W.cell? ⟨0, 2, none⟩ = some (.int .i64 1))
              (first | exact ⟨k0, k1, k2, j0, j1, j2⟩ | (refine ⟨?_, ?_, ?_, ?_, ?_, ?_⟩ <;> (repeat (first | exact r0 | exact r1 | exact r2 | exact s0 | exact s1 | exact s2 | refine cell_alloc' _ ?_))) | go_keep)
              (first
                | (go_at_call 52; refine (at_any _ _ _).mono ?_; rintro e w' ⟨rfl, rfl⟩)
                | (go_at_call 53; refine (add_nn W2 (w.heap.size + 2) _ wr _ src0 x.f2 (kn x.f1 x.f0) _ _ HN1.out hlx ?_ ?_ ?_ ?_).mono ?_; (exact ((((Fr.refl _ wr).alloc _).alloc _).alloc _).drew); (first | exact cell_drew' (cell_new' _ _ _ (by simp) rfl)); (first | exact cell_drew' (cell_new' _ _ _ (by simp) rfl)); (first | exact cell_drew' (cell_new' _ _ _ (by simp) rfl)); rintro e w' ⟨rfl, hnn, hkp⟩; have HNN := Lib.hid hnn; have hbx := hkp wr.heap.size #[.int .i64 x.f0, .int .i64 x.f1, .int .i64 x.f2] 49 (0, 0) (heap_old _ _ (heap_old _ _ (heap_new' wr _ _ rfl))) (by decide); have k0 := cell_of_heap hbx 0 _ rfl; have k1 := cell_of_heap hbx 1 _ rfl; have k2 := cell_of_heap hbx 2 _ rfl; have j0 := HBO.out _ hnn.bel _ _ HG.out.s0; have j1 := HBO.out _ hnn.bel _ _ HG.out.s1; have j2 := HBO.out _ hnn.bel _ _ HG.out.s2; clear hnn hkp))
            all_goals
              go_wp2
              go_roundg (na - (i + 1))
              case measure => omega
              case rel => exact ⟨i + 1, by omega, by go_num, by rw [upto_succ, HR.out, ← List.append_assoc]; exact HNN.out⟩
          · have HR : Hid (arrArc v minute i = []) := by simp [Hid, arrArc, HX.out, htm]
            go_wp2
            go_roundg (na - (i + 1))
            case measure => omega
            case rel => exact ⟨i + 1, by omega, by go_num, by rw [upto_succ, HR.out, List.append_nil]; exact HN1.out.fr ((Fr.refl _ wr).alloc _)⟩
        · have hie : i = na := by omega
          subst hie
          obtain ⟨ad, hA0', hcell⟩ := Kd.at_int HV.out.r0 place (by omega) (by omega)
          subst hA0'
          have hcx := HBO.out _ HN1.out.bel _ _ hcell
          have hcx0 := hcell
          have z0 := HBO.out _ HN1.out.bel _ _ HG.out.t0
          have z1 := HBO.out _ HN1.out.bel _ _ HG.out.t1
          have z2 := HBO.out _ HN1.out.bel _ _ HG.out.t2
          clear hcell
          go_wp2
          go_region_held3 (fun W => W.cell? ⟨w.heap.size + 1, 0, none⟩ = some (.int .i64 place) ∧ W.cell? ⟨w.heap.size + 1, 1, none⟩ = some (.int .i64 minute) ∧ W.cell? ⟨w.heap.size, 0, none⟩ = some (.slice (some ad) nr c0) ∧ W.cell? (ad.add place.toNat) = some (.int .i64 (rd v.rooms place)) ∧ W.cell? ⟨1, 0, none⟩ = some (.int .i64 0) ∧ W.cell? ⟨1, 1, none⟩ = some (.int .i64 0) ∧ W.cell? ⟨1, 2, none⟩ = some (.int .i64 2))
            (first | exact ⟨d3, d4, d0, hcx, z0, z1, z2⟩ | exact ⟨k0, k1, k2, k3, j0, j1, j2⟩ | (refine ⟨?_, ?_, ?_, ?_, ?_, ?_, ?_⟩ <;> (repeat (first | exact d3 | exact d4 | exact d0 | exact hcx | exact z0 | exact z1 | exact z2 | refine cell_alloc' _ ?_))) | go_keep)
            (first
              | (go_at_call 53; refine (add_nn W2 (w.heap.size + 2) _ wr _ (kn place minute) (rd v.rooms place) snk _ _ HN1.out hlx ?_ ?_ ?_ ?_).mono ?_; (exact ((Fr.refl _ wr).alloc _).drew); (exact cell_drew' (cell_new' _ _ _ (by simp) rfl)); (exact cell_drew' (cell_new' _ _ _ (by simp) rfl)); (exact cell_drew' (cell_new' _ _ _ (by simp) rfl)); rintro e w' ⟨rfl, hnn, hkp⟩; have HNN := Lib.hid hnn; have hbb := HB0.out _ hnn.bel; have k0 := cell_of_heap hbb.2 0 _ rfl; have k1 := cell_of_heap hbb.2 1 _ rfl; have k2 := cell_of_heap hbb.1 0 _ rfl; have k3 := HBO.out _ hnn.bel _ _ hcx0; have j0 := HBO.out _ hnn.bel _ _ HG.out.t0; have j1 := HBO.out _ hnn.bel _ _ HG.out.t1; have j2 := HBO.out _ hnn.bel _ _ HG.out.t2; clear hnn hkp))
          all_goals
            go_wp2
            refine bodyPost_ret (results_tmp rfl _ _ _) rfl ?_
            refine ⟨rfl, ?_, ?_⟩
            · have h := HNN.out.net
              unfold netArcs
              rw [hna]
              exact h
            · exact (hFW.below (Nat.le_refl _) (fun _ _ h => h)).trans (HNN.out.bel.mono (by omega))
end Go.Proofs.YtnhcpflenajeaaaDoor

/- isVisit, errorOf. -/
set_option linter.unusedVariables false
set_option linter.unusedSimpArgs false
namespace Go.Proofs.YtnhcpflenajeaaaDoor
open Go.RowKit Go.Proofs.YtnhcpflenajeaaaDoorW.PrintWords Go.Proofs.YtnhcpflenajeaaaDoorW.PrintMore PCrowdMost Mem

theorem VisAt.below {w w' : World} {v : Vis} {A0 A1 A2 : Option Addr} {c0 c1 c2 : Nat} (h : VisAt w v A0 A1 A2 c0 c1 c2) (hb : Below w.heap.size w w') : VisAt w' v A0 A1 A2 c0 c1 c2 :=
  ⟨Kd.C_below h.r0 hb, h.k0, Kd.C_below h.r1 hb, h.k1, Kd.C_below h.r2 hb, h.k2⟩
/-- A visit as a value. -/
def vv (v : Vis) (A0 A1 A2 : Option Addr) (c0 c1 c2 : Nat) : Value := .agg #[.slice A0 v.rooms.length c0, .slice A1 v.trails.length c1, .slice A2 v.arrivals.length c2]

theorem boolOf (p : Prop) : ∃ b : Bool, (b = true ↔ p) := by
  by_cases h : p
  · exact ⟨true, by simp [h]⟩
  · exact ⟨false, by simp [h]⟩
theorem ok_iff (v : Vis) : v.Ok ↔ (wit (v.rooms.length : Int) 1 8 = true ∧ v.trails.length ≤ 16 ∧ v.arrivals.length ≤ 16 ∧ (¬ ∃ i : Int, 0 ≤ i ∧ i < v.rooms.length ∧ wit (rd v.rooms i) 0 1000 = false) ∧
    (¬ ∃ i : Int, 0 ≤ i ∧ i < v.trails.length ∧ badTrail v.rooms.length (rd_T51 v.trails i) = true) ∧ (¬ ∃ i : Int, 0 ≤ i ∧ i < v.arrivals.length ∧ badArr v.rooms.length (rd_T49 v.arrivals i) = true)) := by
  constructor
  · intro h
    refine ⟨by have := h.n1; have := h.n8; simp [wit]; omega, h.t16, h.a16, ?_, ?_, ?_⟩
    · rintro ⟨i, h1, h2, h3⟩
      have := h.room i h1 h2
      simp [wit] at h3
      omega
    · rintro ⟨i, h1, h2, h3⟩
      have := h.trail i h1 h2
      simp [badTrail, wit] at h3
      omega
    · rintro ⟨i, h1, h2, h3⟩
      have := h.arr i h1 h2
      simp [badArr, wit] at h3
      omega
  · rintro ⟨h1, h2, h3, h4, h5, h6⟩
    simp [wit] at h1
    refine ⟨by omega, by omega, h2, h3, fun i a b => ?_, fun i a b => ?_, fun i a b => ?_⟩
    · have h : ¬ wit (rd v.rooms i) 0 1000 = false := fun h => h4 ⟨i, a, b, h⟩
      simp [wit] at h
      exact h
    · have h : ¬ badTrail v.rooms.length (rd_T51 v.trails i) = true := fun h => h5 ⟨i, a, b, h⟩
      simp [badTrail, wit] at h
      omega
    · have h : ¬ badArr v.rooms.length (rd_T49 v.arrivals i) = true := fun h => h6 ⟨i, a, b, h⟩
      simp [badArr, wit] at h
      omega

set_option maxRecDepth 100000 in
set_option maxHeartbeats 2000000 in
theorem isVisit_any (v : Vis) (A0 A1 A2 : Option Addr) (c0 c1 c2 : Nat) (w : World) (hv : VisAt w v A0 A1 A2 c0 c1 c2) :
    Calls Tryd.prog 51 #[.agg #[.slice A0 v.rooms.length c0, .slice A1 v.trails.length c1, .slice A2 v.arrivals.length c2]] w fun e w' => ∃ q : Bool, e = .returned (.bool q) ∧ Below w.heap.size w w' ∧ (q = true ↔ v.Ok) := by
  have hok := ok_iff v
  obtain ⟨nr, hnr⟩ : ∃ n, v.rooms.length = n := ⟨_, rfl⟩
  obtain ⟨nt, hnt⟩ : ∃ n, v.trails.length = n := ⟨_, rfl⟩
  obtain ⟨na, hna⟩ : ∃ n, v.arrivals.length = n := ⟨_, rfl⟩
  have hm0 := Kd.C_max hv.r0
  have hm1 := Kd.C_max hv.r1
  have hm2 := Kd.C_max hv.r2
  rw [hnr] at hm0 hok ⊢
  rw [hnt] at hm1 hok ⊢
  rw [hna] at hm2 hok ⊢
  have HV := Lib.hid hv
  have HOK := Lib.hid hok
  clear hv hok
  obtain ⟨q1, hq1⟩ : ∃ q, wit (nr : Int) 1 8 = q := ⟨_, rfl⟩
  rw [hq1] at HOK
  have HQ1 := Lib.hid hq1
  clear hq1
  obtain ⟨W3, hW3⟩ : ∃ W3, W3 = ((w.alloc (.cells #[.slice A0 nr c0, .slice A1 nt c1, .slice A2 na c2] 26)).alloc (.cells #[.int .i64 (nr : Int)] 3)).alloc (.cells #[.func (.func 59) #[] #[.pointer (some ⟨w.heap.size + 1, 0, none⟩)]] 72) := ⟨_, rfl⟩
  have hB3 : Below w.heap.size w W3 := by rw [hW3]; exact (((Below.refl _ w).alloc (Nat.le_refl _) _).alloc (by simp) _).alloc (by simp; omega) _
  have hs3 : W3.heap.size = w.heap.size + 3 := by rw [hW3]; simp
  have hv0 : W3.heap[w.heap.size]? = some (.cells #[.slice A0 nr c0, .slice A1 nt c1, .slice A2 na c2] 26) := by rw [hW3]; exact heap_old _ _ (heap_old _ _ (heap_new' w _ _ rfl))
  have hv1 : W3.cell? ⟨w.heap.size + 1, 0, none⟩ = some (.int .i64 (nr : Int)) := by rw [hW3]; exact cell_alloc' _ (cell_new' _ _ _ (by simp) rfl)
  have hv2 : W3.cell? ⟨w.heap.size + 1 + 1, 0, none⟩ = some (.func (.func 59) #[] #[.pointer (some ⟨w.heap.size + 1, 0, none⟩)]) := by rw [hW3]; exact cell_new' _ _ _ (by simp) rfl
  have b0 : ∀ X, Below W3.heap.size W3 X → X.cell? ⟨w.heap.size, 0, none⟩ = some (.slice A0 nr c0) ∧ X.cell? ⟨w.heap.size, 1, none⟩ = some (.slice A1 nt c1) ∧ X.cell? ⟨w.heap.size, 2, none⟩ = some (.slice A2 na c2) := by
    intro X hX
    have h := blk_below hv0 hX
    exact ⟨cell_of_heap h 0 _ rfl, cell_of_heap h 1 _ rfl, cell_of_heap h 2 _ rfl⟩
  have HB0 := Lib.hid b0
  have HV3 : Hid (VisAt W3 v A0 A1 A2 c0 c1 c2) := HV.out.below hB3
  have HB3 := Lib.hid hB3
  have HV1 := Lib.hid hv1
  have HV2 := Lib.hid hv2
  have HW3 := Lib.hid hW3
  clear hv0 hv1 hv2 b0 hB3 hW3
  have hno : nr < 9223372036854775807 ∨ nr = 9223372036854775807 := by omega
  go_enter Tryd.func51, Tryd.ntmps51
  by_cases hc : q1 = true ∧ nt ≤ 16 ∧ na ≤ 16
  · obtain ⟨rfl, ht, ha⟩ := hc
    have hnr8 : nr ≤ 8 := by have h := HQ1.out; simp [wit] at h; omega
    obtain ⟨p1, hp1⟩ : ∃ p : Bool, (p = true ↔ ∃ i : Int, 0 ≤ i ∧ i < nr ∧ wit (rd v.rooms i) 0 1000 = false) := boolOf _
    obtain ⟨p2, hp2⟩ : ∃ p : Bool, (p = true ↔ ∃ i : Int, 0 ≤ i ∧ i < nt ∧ badTrail nr (rd_T51 v.trails i) = true) := boolOf _
    obtain ⟨p3, hp3⟩ : ∃ p : Bool, (p = true ↔ ∃ i : Int, 0 ≤ i ∧ i < na ∧ badArr nr (rd_T49 v.arrivals i) = true) := boolOf _
    have HC1 : Hid (∀ X, Below W3.heap.size W3 X → Calls Tryd.prog 64 #[.slice A0 nr c0, .func (.func 63) #[] #[]] X fun e w' => e = .returned (.bool p1) ∧ Below W3.heap.size W3 w') := by
      intro X hX
      have h := contains_rooms X A0 c0 v.rooms (by omega) (HV3.out.below hX).r0
      rw [hnr] at h
      refine h.mono ?_
      rintro e w' ⟨q, rfl, hb, hq⟩
      exact ⟨by rw [Bool.eq_iff_iff.2 (hq.trans hp1.symm)], hX.trans (hb.mono hX.size)⟩
    have HC2 : Hid (∀ X, Below W3.heap.size W3 X → Calls Tryd.prog 65 #[.slice A1 nt c1, .func (.func 60) #[] #[.pointer (some ⟨w.heap.size + 1 + 1, 0, none⟩)]] X fun e w' => e = .returned (.bool p2) ∧ Below W3.heap.size W3 w') := by
      intro X hX
      have h := contains_trails X A1 c1 v.trails (by omega) (w.heap.size + 1 + 1) (w.heap.size + 1) nr (by omega) (pw_cell_below hX HV1.out) (pw_cell_below hX HV2.out) (HV3.out.below hX).r1
      rw [hnt] at h
      refine h.mono ?_
      rintro e w' ⟨q, rfl, hb, hq⟩
      exact ⟨by rw [Bool.eq_iff_iff.2 (hq.trans hp2.symm)], hX.trans (hb.mono hX.size)⟩
    have HC3 : Hid (∀ X, Below W3.heap.size W3 X → Calls Tryd.prog 66 #[.slice A2 na c2, .func (.func 62) #[] #[.pointer (some ⟨w.heap.size + 1 + 1, 0, none⟩)]] X fun e w' => e = .returned (.bool p3) ∧ Below W3.heap.size W3 w') := by
      intro X hX
      have h := contains_arrs X A2 c2 v.arrivals (by omega) (w.heap.size + 1 + 1) (w.heap.size + 1) nr (by omega) (pw_cell_below hX HV1.out) (pw_cell_below hX HV2.out) (HV3.out.below hX).r2
      rw [hna] at h
      refine h.mono ?_
      rintro e w' ⟨q, rfl, hb, hq⟩
      exact ⟨by rw [Bool.eq_iff_iff.2 (hq.trans hp3.symm)], hX.trans (hb.mono hX.size)⟩
    rw [← hp1, ← hp2, ← hp3] at HOK
    have HP := Lib.hid hp1
    have hfin : ∀ X, Below W3.heap.size W3 X → Below w.heap.size w X := fun X hX => HB3.out.trans (hX.mono (by omega))
    have HFIN := Lib.hid hfin
    clear hp1 hp2 hp3 hfin
    cases p1 <;> cases p2 <;> go_wp2_with (first
      | (go_at_call 35; refine (within_any _ _ _ _).mono ?_; rintro e w' ⟨rfl, rfl⟩; rw [HQ1.out])
      | (go_at_call 64; refine (HC1.out _ (by rw [← HW3.out]; exact Below.refl _ _)).mono ?_; rintro e X1 ⟨rfl, hb1⟩; have hg1 := HB0.out X1 hb1; have y0 := hg1.1; have y1 := hg1.2.1; have y2 := hg1.2.2; have HX1 := Lib.hid hb1; clear hg1 hb1)
      | (go_at_call 65; refine (HC2.out _ HX1.out).mono ?_; rintro e X2 ⟨rfl, hb1⟩; have hg1 := HB0.out X2 hb1; have u0 := hg1.1; have u1 := hg1.2.1; have u2 := hg1.2.2; have HX2 := Lib.hid hb1; clear hg1 hb1)
      | (go_at_call 66; refine (HC3.out _ HX2.out).mono ?_; rintro e X3 ⟨rfl, hb1⟩; have HX3 := Lib.hid hb1; clear hb1))
    all_goals
      refine bodyPost_ret (results_tmp rfl _ _ _) rfl ?_
      first
      | exact ⟨_, rfl, HFIN.out _ HX3.out, by have h := HOK.out; simp_all⟩
      | exact ⟨_, rfl, HFIN.out _ HX2.out, by have h := HOK.out; simp_all⟩
      | exact ⟨_, rfl, HFIN.out _ HX1.out, by have h := HOK.out; simp_all⟩
  · have hcf : ¬ v.Ok := fun h => hc (by have h2 := HOK.out.1 h; exact ⟨h2.1, h2.2.1, h2.2.2.1⟩)
    have HCF := Lib.hid hcf
    clear hcf
    cases q1 with
    | false =>
      go_wp2_with (first | (go_at_call 35; refine (within_any _ _ _ _).mono ?_; rintro e w' ⟨rfl, rfl⟩; rw [HQ1.out]))
      refine bodyPost_ret (results_tmp rfl _ _ _) rfl ?_
      first
          | exact ⟨false, rfl, (by rw [← HW3.out]; exact HB3.out), by simp [HCF.out]⟩
          | exact .inl ⟨rfl, (by rw [← HW3.out]; exact HB3.out), HCF.out⟩
    | true =>
      by_cases ht : nt ≤ 16
      · have ha : ¬ na ≤ 16 := fun h => hc ⟨rfl, ht, h⟩
        clear hc
        go_wp2_with (first | (go_at_call 35; refine (within_any _ _ _ _).mono ?_; rintro e w' ⟨rfl, rfl⟩; rw [HQ1.out]))
        refine bodyPost_ret (results_tmp rfl _ _ _) rfl ?_
        first
          | exact ⟨false, rfl, (by rw [← HW3.out]; exact HB3.out), by simp [HCF.out]⟩
          | exact .inl ⟨rfl, (by rw [← HW3.out]; exact HB3.out), HCF.out⟩
      · clear hc
        go_wp2_with (first | (go_at_call 35; refine (within_any _ _ _ _).mono ?_; rintro e w' ⟨rfl, rfl⟩; rw [HQ1.out]))
        refine bodyPost_ret (results_tmp rfl _ _ _) rfl ?_
        first
          | exact ⟨false, rfl, (by rw [← HW3.out]; exact HB3.out), by simp [HCF.out]⟩
          | exact .inl ⟨rfl, (by rw [← HW3.out]; exact HB3.out), HCF.out⟩

/-- The error of a visit and a view: 0, 1, 2. -/
def errOf (v : Vis) (place minute : Int) (e : Int) : Prop := (¬ v.Ok ∧ e = 1) ∨ (v.Ok ∧ ¬ (0 ≤ place ∧ place < v.rooms.length ∧ 0 ≤ minute ∧ minute ≤ 60) ∧ e = 2) ∨ (v.Ok ∧ (0 ≤ place ∧ place < v.rooms.length ∧ 0 ≤ minute ∧ minute ≤ 60) ∧ e = 0)
set_option maxRecDepth 100000 in
set_option maxHeartbeats 2000000 in
theorem errorOf_any (v : Vis) (A0 A1 A2 : Option Addr) (c0 c1 c2 : Nat) (place minute : Int) (w : World) (hv : VisAt w v A0 A1 A2 c0 c1 c2) :
    Calls Tryd.prog 30 #[.agg #[.slice A0 v.rooms.length c0, .slice A1 v.trails.length c1, .slice A2 v.arrivals.length c2], .agg #[.int .i64 place, .int .i64 minute]] w fun e w' => ∃ c : Int, e = .returned (.int .i64 c) ∧ Below w.heap.size w w' ∧ errOf v place minute c := by
  obtain ⟨W2, hW2⟩ : ∃ W2, W2 = (w.alloc (.cells #[.slice A0 v.rooms.length c0, .slice A1 v.trails.length c1, .slice A2 v.arrivals.length c2] 26)).alloc (.cells #[.int .i64 place, .int .i64 minute] 46) := ⟨_, rfl⟩
  have hB2 : Below w.heap.size w W2 := by rw [hW2]; exact ((Below.refl _ w).alloc (Nat.le_refl _) _).alloc (by simp) _
  have hs2 : W2.heap.size = w.heap.size + 2 := by rw [hW2]; simp
  have hv0 : W2.heap[w.heap.size]? = some (.cells #[.slice A0 v.rooms.length c0, .slice A1 v.trails.length c1, .slice A2 v.arrivals.length c2] 26) := by rw [hW2]; exact heap_old _ _ (heap_new' w _ _ rfl)
  have hv1 : W2.heap[w.heap.size + 1]? = some (.cells #[.int .i64 place, .int .i64 minute] 46) := by rw [hW2]; exact heap_new' _ _ _ (by simp)
  obtain ⟨p, hp⟩ := boolOf v.Ok
  have HC : Hid (Calls Tryd.prog 51 #[.agg #[.slice A0 v.rooms.length c0, .slice A1 v.trails.length c1, .slice A2 v.arrivals.length c2]] W2 fun e w' => e = .returned (.bool p) ∧ Below W2.heap.size W2 w') := by
    refine (isVisit_any v A0 A1 A2 c0 c1 c2 W2 (hv.below hB2)).mono ?_
    rintro e w' ⟨q, rfl, hb, hq⟩
    exact ⟨by rw [Bool.eq_iff_iff.2 (hq.trans hp.symm)], hb⟩
  have hm0 := Kd.C_max hv.r0
  obtain ⟨nr, hnr⟩ : ∃ n, v.rooms.length = n := ⟨_, rfl⟩
  have hHB : ∀ X, Below W2.heap.size W2 X → X.cell? ⟨w.heap.size, 0, none⟩ = some (.slice A0 nr c0) ∧ X.cell? ⟨w.heap.size + 1, 0, none⟩ = some (.int .i64 place) ∧ X.cell? ⟨w.heap.size + 1, 1, none⟩ = some (.int .i64 minute) := by
    intro X hX
    have h := blk_below hv0 hX
    have h' := blk_below hv1 hX
    rw [hnr] at h
    exact ⟨cell_of_heap h 0 _ rfl, cell_of_heap h' 0 _ rfl, cell_of_heap h' 1 _ rfl⟩
  have HB := Lib.hid hHB
  have HB2 := Lib.hid hB2
  have HP := Lib.hid hp
  have hok : v.Ok → nr ≤ 8 ∧ 1 ≤ nr := fun h => by have := h.n8; have := h.n1; omega
  have HOK := Lib.hid hok
  obtain ⟨ER, hER⟩ : ∃ ER : Int → Prop, ER = errOf v place minute := ⟨_, rfl⟩
  have HER := Lib.hid hER
  rw [← hER]
  rw [hW2] at HC
  rw [hnr] at HC hm0 hW2 ⊢
  have HW2 := Lib.hid hW2
  clear hv hv0 hv1 hHB hB2 hp hok hER hW2
  have hwl : w.heap.size + 1 < W2.heap.size := by omega
  go_enter Tryd.func30, Tryd.ntmps30
  cases p
  · go_wp2_with (first | (go_at_call 51; refine HC.out.mono ?_; rintro e X ⟨rfl, hb⟩; have HX := Lib.hid hb; clear hb))
    refine bodyPost_ret (results_tmp rfl _ _ _) rfl ?_
    refine ⟨1, rfl, ?_, ?_⟩
    · have h := HX.out; rw [← HW2.out] at h; exact HB2.out.trans (h.mono (by omega))
    · rw [HER.out]; exact .inl ⟨(fun h => by have := HP.out.2 h; cases this), rfl⟩
  · have ho := HP.out.1 rfl
    have hn := HOK.out ho
    obtain ⟨q1, hq1⟩ : ∃ q, wit place 0 ((nr : Int) - 1) = q := ⟨_, rfl⟩
    obtain ⟨q2, hq2⟩ : ∃ q, wit minute 0 60 = q := ⟨_, rfl⟩
    have HQ1 := Lib.hid hq1
    have HQ2 := Lib.hid hq2
    have HO := Lib.hid ho
    have HNR := Lib.hid hnr
    clear hq1 hq2 ho hnr
    cases q1 <;> cases q2 <;> go_wp2_with (first
      | (go_at_call 51; refine HC.out.mono ?_; rintro e X ⟨rfl, hb⟩; have HX := Lib.hid hb; have hg := HB.out X (by rw [HW2.out]; exact hb); have y0 := hg.1; have y1 := hg.2.1; have y2 := hg.2.2; clear hb hg)
      | (go_at_call 35; refine (within_any _ _ _ _).mono ?_; rintro e w' ⟨rfl, rfl⟩; rw [HQ1.out])
      | (go_at_call 36; refine (isMinute_any _ _).mono ?_; rintro e w' ⟨rfl, rfl⟩; rw [HQ2.out]))
    all_goals
      refine bodyPost_ret (results_tmp rfl _ _ _) rfl ?_
      have hx := HX.out
      rw [← HW2.out] at hx
      have hx2 := HB2.out.trans (hx.mono (by omega))
      have h1 := HQ1.out
      have h2 := HQ2.out
      have h3 := HNR.out
      simp [wit] at h1 h2
      first
      | exact ⟨2, rfl, hx2, by rw [HER.out]; exact .inr (.inl ⟨HO.out, by omega, rfl⟩)⟩
      | exact ⟨0, rfl, hx2, by rw [HER.out]; exact .inr (.inr ⟨HO.out, by omega, rfl⟩)⟩
end Go.Proofs.YtnhcpflenajeaaaDoor

/- Most: the least width of a wall. -/
set_option linter.unusedVariables false
set_option linter.unusedSimpArgs false
namespace Go.Proofs.YtnhcpflenajeaaaDoor
open Go.RowKit Go.Proofs.YtnhcpflenajeaaaDoorW.PrintWords Go.Proofs.YtnhcpflenajeaaaDoorW.PrintMore PCrowdMost Mem

/-- Arcs by pairs that nothing has gone along. -/
def Fresh (C : Int) : List Arc → Prop
  | a :: b :: l => b.left = 0 ∧ (0 ≤ a.left ∧ a.left ≤ C) ∧ (b.src = a.dst ∧ b.dst = a.src) ∧ Fresh C l
  | [] => True
  | [_] => False
theorem Fresh.append {C : Int} : ∀ {A B : List Arc}, Fresh C A → Fresh C B → Fresh C (A ++ B)
  | [], _, _, h => h
  | [_], _, h, _ => h.elim
  | a :: b :: l, B, h, k => ⟨h.1, h.2.1, h.2.2.1, Fresh.append (A := l) h.2.2.2 k⟩
theorem Fresh.two {C r : Int} (s d : Knot) (h0 : 0 ≤ r) (h1 : r ≤ C) : Fresh C (two s d r) := ⟨rfl, ⟨h0, h1⟩, ⟨rfl, rfl⟩, trivial⟩
theorem Fresh.upto {C : Int} {g : Int → List Arc} : ∀ (n : Nat), (∀ i : Nat, i < n → Fresh C (g (i : Int))) → Fresh C (upto g n)
  | 0, _ => trivial
  | n + 1, h => by
    rw [upto_succ]
    exact (Fresh.upto n (fun i hi => h i (by omega))).append (h n (by omega))
theorem Fresh.backs {C : Int} : ∀ {A : List Arc}, Fresh C A → Backs A
  | [], _ => trivial
  | [_], h => h.elim
  | a :: b :: l, h => ⟨h.2.2.1.1, h.2.2.1.2, Fresh.backs (A := l) h.2.2.2⟩
theorem Fresh.caps {C : Int} : ∀ {A : List Arc}, Fresh C A → Caps C A
  | [], _ => by intro p hp; simp [pairs] at hp
  | [_], h => h.elim
  | a :: b :: l, h => by
    intro p hp
    simp only [pairs, List.mem_cons] at hp
    rcases hp with rfl | hp
    · have := h.1; have := h.2.1; simp; omega
    · exact Fresh.caps (A := l) h.2.2.2 p hp
theorem Fresh.zero {C : Int} (S : Knot → Bool) : ∀ {A : List Arc}, Fresh C A → Flow.net S (pairs A) = 0
  | [], _ => rfl
  | [_], h => h.elim
  | a :: b :: l, h => by
    simp only [pairs, Flow.net, Fresh.zero S (A := l) h.2.2.2, h.1]
    simp
theorem fresh_net (v : Vis) (h : v.Ok) (place minute : Int) (hp : 0 ≤ place ∧ place < v.rooms.length) (hm : 0 ≤ minute) : Fresh 1000 (netArcs v place minute) := by
  unfold netArcs minuteArcs
  refine ((Fresh.upto _ (fun t ht => (Fresh.upto _ (fun p hp' => ?_)).append (Fresh.upto _ (fun i hi => ?_)))).append (Fresh.upto _ (fun i hi => ?_))).append (Fresh.two _ _ (h.room _ hp.1 hp.2).1 (h.room _ hp.1 hp.2).2)
  · unfold roomArc
    split
    · exact Fresh.two _ _ (h.room _ (by omega) (by omega)).1 (h.room _ (by omega) (by omega)).2
    · trivial
  · unfold trailArc
    split
    · have := h.trail i (by omega) (by omega); exact Fresh.two _ _ this.2.2.2.2.1 this.2.2.2.2.2
    · trivial
  · unfold arrArc
    split
    · have := h.arr i (by omega) (by omega); exact Fresh.two _ _ this.2.2.1 this.2.2.2
    · trivial

/-- A wall, as a set of knots: the source in it, the sink not. -/
def Wall (S : Knot → Bool) : Prop := S src0 = true ∧ S snk = false
def IsLeast (A : List Arc) (n : Int) : Prop := (∀ S, Wall S → n ≤ Flow.cut S (pairs A)) ∧ ∃ R, Wall R ∧ Flow.cut R (pairs A) = n
/-- R is the least wall within all others that are as narrow. -/
def IsWall (A : List Arc) (n : Int) (R : Knot → Bool) : Prop := Wall R ∧ Flow.cut R (pairs A) = n ∧ ∀ S, Wall S → Flow.cut S (pairs A) = n → ∀ k, R k = true → S k = true
def reachB (pre : Pre) (k : Knot) : Bool := decide (reached pre k)

theorem full_closed {A : List Arc} {pre : Pre} (hd : ∀ k, reached pre k → DoneAt A pre (adj A k)) : ∀ (i : Nat) (a : Arc), A[i]? = some a → reachB pre a.src = true → a.left ≠ 0 → reachB pre a.dst = true := by
  intro i a ha hs hl
  simp only [reachB, decide_eq_true_eq] at hs ⊢
  exact hd _ hs i (mem_adj.2 ⟨a, ha, rfl⟩) a ha hl
theorem full_wall {A A' : List Arc} {m C : Int} {pre : Pre} (hf : Fl A A' m) (hb : Backs A') (hc : Caps C A') (hz : ∀ S : Knot → Bool, Flow.net S (pairs A) = 0) (ht : Tree A' pre) (hd : ∀ k, reached pre k → DoneAt A' pre (adj A' k)) (hs : snk ∉ pre.map (·.1)) :
    IsLeast A m ∧ IsWall A m (reachB pre) := by
  have hW : Wall (reachB pre) := ⟨by simp [reachB, reached], by simp only [reachB, decide_eq_false_iff_not]; rintro (h | h); exact absurd h (by decide); exact hs h⟩
  have hn : ∀ S : Knot → Bool, Flow.net S (pairs A') = m * (Flow.ind (S src0) - Flow.ind (S snk)) := fun S => by rw [hf.net, hz]; omega
  have hcl := (closed_iff (reachB pre) A' hb).1 (full_closed hd)
  have heq := Flow.least_eq (pairs A') src0 snk m hn (reachB pre) hW.1 hW.2 hcl
  rw [hf.cut] at heq
  refine ⟨⟨fun S hS => ?_, _, hW, heq⟩, hW, heq, fun S hS he k hk => ?_⟩
  · have := Flow.least (pairs A') src0 snk m hc.fine hn S hS.1 hS.2
    rwa [hf.cut] at this
  · have hcS := Flow.least_closed (pairs A') src0 snk m hc.fine hn S hS.1 hS.2 (by rw [hf.cut]; exact he)
    refine ht.within S hS.1 ((closed_iff S A' hb).2 hcS) k ?_
    simpa [reachB] using hk

theorem errOf_ex (v : Vis) (p m : Int) : ∃ c, errOf v p m c := by
  by_cases h : v.Ok
  · by_cases h2 : 0 ≤ p ∧ p < v.rooms.length ∧ 0 ≤ m ∧ m ≤ 60
    · exact ⟨0, .inr (.inr ⟨h, h2, rfl⟩)⟩
    · exact ⟨2, .inr (.inl ⟨h, h2, rfl⟩)⟩
  · exact ⟨1, .inl ⟨h, rfl⟩⟩
theorem errOf_inj {v : Vis} {p m a b : Int} (h : errOf v p m a) (k : errOf v p m b) : a = b := by
  rcases h with ⟨h1, rfl⟩ | ⟨h1, h2, rfl⟩ | ⟨h1, h2, rfl⟩ <;> rcases k with ⟨k1, rfl⟩ | ⟨k1, k2, rfl⟩ | ⟨k1, k2, rfl⟩ <;> first | rfl | contradiction
theorem errOf_zero {v : Vis} {p m : Int} (h : errOf v p m 0) : v.Ok ∧ (0 ≤ p ∧ p < v.rooms.length ∧ 0 ≤ m ∧ m ≤ 60) := by
  rcases h with ⟨h1, h⟩ | ⟨h1, h2, h⟩ | ⟨h1, h2, h⟩
  · omega
  · omega
  · exact ⟨h1, h2⟩

set_option maxRecDepth 100000 in
set_option maxHeartbeats 2000000 in
theorem most_any (v : Vis) (A0 A1 A2 : Option Addr) (c0 c1 c2 : Nat) (place minute : Int) (w : World) (hv : VisAt w v A0 A1 A2 c0 c1 c2) (hG : Glob w) (hw2 : 2 ≤ w.heap.size) :
    Calls Tryd.prog 16 #[.agg #[.slice A0 v.rooms.length c0, .slice A1 v.trails.length c1, .slice A2 v.arrivals.length c2], .int .i64 place, .int .i64 minute] w fun e w' => ∃ n c : Int, e = .returned (.tuple #[.int .i64 n, .int .i64 c]) ∧ Below w.heap.size w w' ∧ errOf v place minute c ∧ (c ≠ 0 → n = 0) ∧ (c = 0 → IsLeast (netArcs v place minute) n) := by
  obtain ⟨c, hc⟩ := errOf_ex v place minute
  have hm0 := Kd.C_max hv.r0
  obtain ⟨W2, hW2⟩ : ∃ W2, W2 = (w.alloc (.cells #[.slice A0 v.rooms.length c0, .slice A1 v.trails.length c1, .slice A2 v.arrivals.length c2] 26)).alloc (.cells #[.int .i64 place, .int .i64 minute] 46) := ⟨_, rfl⟩
  have hB2 : Below w.heap.size w W2 := by rw [hW2]; exact ((Below.refl _ w).alloc (Nat.le_refl _) _).alloc (by simp) _
  have hs2 : W2.heap.size = w.heap.size + 2 := by rw [hW2]; simp
  have hv0 : W2.heap[w.heap.size]? = some (.cells #[.slice A0 v.rooms.length c0, .slice A1 v.trails.length c1, .slice A2 v.arrivals.length c2] 26) := by rw [hW2]; exact heap_old _ _ (heap_new' w _ _ rfl)
  have hv1 : W2.heap[w.heap.size + 1]? = some (.cells #[.int .i64 place, .int .i64 minute] 46) := by rw [hW2]; exact heap_new' _ _ _ (by simp)
  have HE : Hid (∀ X, Below W2.heap.size W2 X → Calls Tryd.prog 30 #[.agg #[.slice A0 v.rooms.length c0, .slice A1 v.trails.length c1, .slice A2 v.arrivals.length c2], .agg #[.int .i64 place, .int .i64 minute]] X fun e w' => e = .returned (.int .i64 c) ∧ Below W2.heap.size W2 w') := by
    intro X hX
    refine (errorOf_any v A0 A1 A2 c0 c1 c2 place minute X ((hv.below hB2).below hX)).mono ?_
    rintro e w' ⟨c', rfl, hb, hc'⟩
    exact ⟨by rw [errOf_inj hc' hc], hX.trans (hb.mono hX.size)⟩
  have HN : Hid (c = 0 → ∀ X, Below W2.heap.size W2 X → Calls Tryd.prog 40 #[.agg #[.slice A0 v.rooms.length c0, .slice A1 v.trails.length c1, .slice A2 v.arrivals.length c2], .agg #[.int .i64 place, .int .i64 minute]] X fun e Y => e = .returned (.map (some (X.heap.size + 2))) ∧ Below W2.heap.size W2 Y ∧
      Calls Tryd.prog 41 #[.map (some (X.heap.size + 2))] Y fun e Z => ∃ n : Int, e = .returned (.int .i64 n) ∧ Below W2.heap.size W2 Z ∧ IsLeast (netArcs v place minute) n) := by
    intro h0 X hX
    obtain ⟨hok, hp⟩ := errOf_zero (h0 ▸ hc)
    refine (newNet_any v A0 A1 A2 c0 c1 c2 place minute X ((hv.below hB2).below hX) hok ((hG.below hB2 hw2).below hX (by omega)) ⟨hp.1, hp.2.1⟩ ⟨hp.2.2.1, hp.2.2.2⟩).mono ?_
    rintro e Y ⟨rfl, ⟨bs, f, top, hn⟩, hb⟩
    have hBY := hX.trans (hb.mono hX.size)
    refine ⟨rfl, hBY, ?_⟩
    have hfr := fresh_net v hok place minute ⟨hp.1, hp.2.1⟩ hp.2.2.1
    have hlen : (netArcs v place minute).length ≤ 1000000 := by
      unfold netArcs
      have h1 := upto_length (minuteArcs v minute) 48 (fun i => by have := minuteArcs_length v minute i; have := hok.n8; have := hok.t16; omega) (minute + 1).toNat
      have h2 := upto_length (arrArc v minute) 2 (arrArc_length v minute) v.arrivals.length
      have := hok.a16
      simp only [List.length_append, two, List.length_cons, List.length_nil]
      omega
    have htop : X.heap.size + 2 ≤ top := by have := hn.rm.hi; omega
    refine (callsIn_wide.1 (fill_in 0 (X.heap.size + 2) top (X.heap.size + 2) _ bs f Y hn ((hG.below hB2 hw2).below hBY (by omega)) (by have := hX.size; omega) htop hlen 1000 (by omega) (by omega) hfr.caps (fun S => hfr.zero S))).mono ?_
    rintro e Z ⟨m, A', rfl, hfl, hcp, hnm, ⟨pre, ht, hd, hs⟩, hF⟩
    refine ⟨m, rfl, hBY.trans (hF.below (by have := hb.size; have := hX.size; omega) (fun k hk hm => by have := hnm.rng k hm; have := hX.size; omega)), (full_wall hfl hnm.backs hcp (fun S => hfr.zero S) ht hd hs).1⟩
  have HB2 := Lib.hid hB2
  have HC := Lib.hid hc
  have hHB : ∀ X, Below W2.heap.size W2 X → X.cell? ⟨w.heap.size, 0, none⟩ = some (.slice A0 v.rooms.length c0) ∧ X.cell? ⟨w.heap.size, 1, none⟩ = some (.slice A1 v.trails.length c1) ∧ X.cell? ⟨w.heap.size, 2, none⟩ = some (.slice A2 v.arrivals.length c2) ∧ X.cell? ⟨w.heap.size + 1, 0, none⟩ = some (.int .i64 place) ∧ X.cell? ⟨w.heap.size + 1, 1, none⟩ = some (.int .i64 minute) := by
    intro X hX
    have h := blk_below hv0 hX
    have h' := blk_below hv1 hX
    exact ⟨cell_of_heap h 0 _ rfl, cell_of_heap h 1 _ rfl, cell_of_heap h 2 _ rfl, cell_of_heap h' 0 _ rfl, cell_of_heap h' 1 _ rfl⟩
  have HHB := Lib.hid hHB
  have HW2 := Lib.hid hW2
  clear hv hv0 hv1 hHB hB2 hc hG hW2
  go_enter Tryd.func16, Tryd.ntmps16
  by_cases hc0 : c = 0
  · subst hc0
    have HN' := Lib.hid (HN.out rfl)
    clear HN
    go_wp2_with (first
      | (go_at_call 30; refine (HE.out _ (by rw [← HW2.out]; exact Below.refl _ _)).mono ?_; rintro e X ⟨rfl, hb⟩; have HX := Lib.hid hb; have hg := HHB.out X hb; have y0 := hg.1; have y1 := hg.2.1; have y2 := hg.2.2.1; have y3 := hg.2.2.2.1; have y4 := hg.2.2.2.2; clear hb hg)
      | (go_at_call 40; refine (HN'.out _ HX.out).mono ?_; rintro e Y ⟨rfl, hb, hfill⟩; have HY := Lib.hid hb; have HFI := Lib.hid hfill; clear hb hfill)
      | (go_at_call 41; refine HFI.out.mono ?_; rintro e Z ⟨n, rfl, hb, hl⟩; have HZ := Lib.hid hb; have HL := Lib.hid hl; clear hb hl))
    refine bodyPost_ret (results_tmp2 rfl _ _ _) rfl ?_
    exact ⟨n, 0, rfl, HB2.out.trans (HZ.out.mono (by omega)), HC.out, fun h => absurd rfl h, fun _ => HL.out⟩
  · go_wp2_with (first
      | (go_at_call 30; refine (HE.out _ (by rw [← HW2.out]; exact Below.refl _ _)).mono ?_; rintro e X ⟨rfl, hb⟩; have HX := Lib.hid hb; clear hb))
    refine bodyPost_ret (results_tmp2 rfl _ _ _) rfl ?_
    exact ⟨0, c, rfl, HB2.out.trans (HX.out.mono (by omega)), HC.out, fun _ => rfl, fun h => absurd h hc0⟩
end Go.Proofs.YtnhcpflenajeaaaDoor

/- cmp.Compare, cmp.Or at ints; Wall's order. -/
set_option linter.unusedVariables false
set_option linter.unusedSimpArgs false
namespace Go.Proofs.YtnhcpflenajeaaaDoor
open Go.RowKit Go.Proofs.YtnhcpflenajeaaaDoorW.PrintWords Go.Proofs.YtnhcpflenajeaaaDoorW.PrintMore PCrowdMost Mem

theorem isNaN_any (x : Int) (w : World) : Calls Tryd.prog 58 #[.int .i64 x] w fun e w' => e = .returned (.bool false) ∧ w' = w := by
  go_enter Tryd.func58, Tryd.ntmps58
  go_wp2
  refine bodyPost_ret (results_tmp rfl _ _ _) rfl ?_
  exact ⟨by simp, rfl⟩
def cmpI (x y : Int) : Int := if x < y then -1 else if y < x then 1 else 0
theorem compare_any (x y : Int) (w : World) : Calls Tryd.prog 47 #[.int .i64 x, .int .i64 y] w fun e w' => e = .returned (.int .i64 (cmpI x y)) ∧ w' = w := by
  by_cases h1 : x < y
  · go_enter Tryd.func47, Tryd.ntmps47
    go_wp2_with (go_at_call 58; refine (isNaN_any _ _).mono ?_; rintro e w' ⟨rfl, rfl⟩)
    refine bodyPost_ret (results_tmp rfl _ _ _) rfl ?_
    exact ⟨by simp [cmpI, h1], rfl⟩
  · by_cases h2 : y < x
    · go_enter Tryd.func47, Tryd.ntmps47
      go_wp2_with (go_at_call 58; refine (isNaN_any _ _).mono ?_; rintro e w' ⟨rfl, rfl⟩)
      refine bodyPost_ret (results_tmp rfl _ _ _) rfl ?_
      exact ⟨by simp [cmpI, h1, h2], rfl⟩
    · go_enter Tryd.func47, Tryd.ntmps47
      go_wp2_with (go_at_call 58; refine (isNaN_any _ _).mono ?_; rintro e w' ⟨rfl, rfl⟩)
      refine bodyPost_ret (results_tmp rfl _ _ _) rfl ?_
      refine ⟨?_, rfl⟩
      have e : cmpI x y = 0 := by unfold cmpI; rw [if_neg (by omega), if_neg (by omega)]
      rw [e]
      rfl
theorem or_any (x y : Int) (g c : Nat) (w : World) (h0 : w.cell? ⟨g, 0, none⟩ = some (.int .i64 x)) (h1 : w.cell? ⟨g, 1, none⟩ = some (.int .i64 y)) : Calls Tryd.prog 46 #[.slice (some ⟨g, 0, none⟩) 2 c] w fun e w' => e = .returned (.int .i64 (if x ≠ 0 then x else y)) ∧ w' = w := by
  by_cases hx : x = 0
  · subst hx
    by_cases hy : y = 0
    · subst hy
      go_enter Tryd.func46, Tryd.ntmps46
      go_wp2
      refine wp_loop_rounds 3 ?_
      rw [rounds_succ]
      go_wp2
      rw [rounds_succ]
      go_wp2
      rw [rounds_succ]
      go_wp2
      refine bodyPost_ret (results_tmp rfl _ _ _) rfl ?_
      exact ⟨by simp, rfl⟩
    · go_enter Tryd.func46, Tryd.ntmps46
      go_wp2
      refine wp_loop_rounds 3 ?_
      rw [rounds_succ]
      go_wp2
      rw [rounds_succ]
      go_wp2
      refine bodyPost_ret (results_tmp rfl _ _ _) rfl ?_
      exact ⟨by simp, rfl⟩
  · go_enter Tryd.func46, Tryd.ntmps46
    go_wp2
    refine wp_loop_rounds 3 ?_
    rw [rounds_succ]
    go_wp2
    refine bodyPost_ret (results_tmp rfl _ _ _) rfl ?_
    exact ⟨by simp [hx], rfl⟩
/-- Wall's order: by place, then by minute. -/
def cfS (a b : Stand) : Int := if cmpI a.p b.p ≠ 0 then cmpI a.p b.p else cmpI a.m b.m

set_option maxRecDepth 100000 in
set_option maxHeartbeats 2000000 in
theorem closure45 (a b : Stand) (W : World) : Calls Tryd.prog 45 #[.agg #[.int .i64 a.p, .int .i64 a.m], .agg #[.int .i64 b.p, .int .i64 b.m]] W fun e w' => e = .returned (.int .i64 (cfS a b)) ∧ ∃ v1 v2 t, w' = (((W.alloc (.cells #[.int .i64 a.p, .int .i64 a.m] 46)).alloc (.cells #[.int .i64 b.p, .int .i64 b.m] 46)).alloc (.cells #[v1, v2] t)).drew := by
  have r0 : ((W.alloc (.cells #[.int .i64 a.p, .int .i64 a.m] 46)).alloc (.cells #[.int .i64 b.p, .int .i64 b.m] 46)).cell? ⟨W.heap.size, 0, none⟩ = some (.int .i64 a.p) := cell_alloc' _ (cell_new' _ _ _ rfl rfl)
  have r1 : ((W.alloc (.cells #[.int .i64 a.p, .int .i64 a.m] 46)).alloc (.cells #[.int .i64 b.p, .int .i64 b.m] 46)).cell? ⟨W.heap.size, 1, none⟩ = some (.int .i64 a.m) := cell_alloc' _ (cell_new' _ _ _ rfl rfl)
  have r2 : ((W.alloc (.cells #[.int .i64 a.p, .int .i64 a.m] 46)).alloc (.cells #[.int .i64 b.p, .int .i64 b.m] 46)).cell? ⟨W.heap.size + 1, 0, none⟩ = some (.int .i64 b.p) := cell_new' _ _ _ (by simp) rfl
  have r3 : ((W.alloc (.cells #[.int .i64 a.p, .int .i64 a.m] 46)).alloc (.cells #[.int .i64 b.p, .int .i64 b.m] 46)).cell? ⟨W.heap.size + 1, 1, none⟩ = some (.int .i64 b.m) := cell_new' _ _ _ (by simp) rfl
  obtain ⟨q1, hq1⟩ : ∃ q, cmpI a.p b.p = q := ⟨_, rfl⟩
  obtain ⟨q2, hq2⟩ : ∃ q, cmpI a.m b.m = q := ⟨_, rfl⟩
  have e : cfS a b = if q1 ≠ 0 then q1 else q2 := by unfold cfS; rw [hq1, hq2]
  obtain ⟨q3, hq3⟩ : ∃ q, (if q1 ≠ 0 then q1 else q2) = q := ⟨_, rfl⟩
  rw [e, hq3]
  have HQ1 := Lib.hid hq1
  have HQ2 := Lib.hid hq2
  have HQ3 := Lib.hid hq3
  clear hq1 hq2 hq3 e
  go_enter Tryd.func45, Tryd.ntmps45
  go_wp2
  go_region_held3 (fun X => X.cell? ⟨W.heap.size, 0, none⟩ = some (.int .i64 a.p) ∧ X.cell? ⟨W.heap.size, 1, none⟩ = some (.int .i64 a.m) ∧ X.cell? ⟨W.heap.size + 1, 0, none⟩ = some (.int .i64 b.p) ∧ X.cell? ⟨W.heap.size + 1, 1, none⟩ = some (.int .i64 b.m))
    (first | exact ⟨r0, r1, r2, r3⟩ | (refine ⟨?_, ?_, ?_, ?_⟩ <;> (repeat (first | exact r0 | exact r1 | exact r2 | exact r3 | refine cell_alloc' _ ?_))) | go_keep)
    (first
      | (go_at_call 47; refine (compare_any _ _ _).mono ?_; rintro e w' ⟨rfl, rfl⟩; (first | rw [HQ1.out] | rw [HQ2.out]))
      | (go_at_call 46; refine (or_any q1 q2 _ _ _ ?_ ?_).mono ?_; (exact cell_drew' (cell_new' _ _ _ (by simp) rfl)); (exact cell_drew' (cell_new' _ _ _ (by simp) rfl)); rintro e w' ⟨rfl, rfl⟩; rw [HQ3.out]))
  all_goals
    go_wp2
    refine bodyPost_ret (results_tmp rfl _ _ _) rfl ?_
    exact ⟨rfl, _, _, _, rfl⟩
end Go.Proofs.YtnhcpflenajeaaaDoor

/- Wall: the stands that more people could still reach. -/
set_option linter.unusedVariables false
set_option linter.unusedSimpArgs false
namespace Go.Proofs.YtnhcpflenajeaaaDoor
open Go.RowKit Go.Proofs.YtnhcpflenajeaaaDoorW.PrintWords Go.Proofs.YtnhcpflenajeaaaDoorW.PrintMore PCrowdMost Mem
attribute [local go_sem] Oper.semAt_some

theorem info46 : (Tryd.prog.info? 46).map (fun i => (i.zero, i.size, i.bytes)) = some (some (.agg #[.int .i64 0, .int .i64 0]), 2, 16) := by kernel_rfl
def scells (ks : List Stand) : List Value := ks.flatMap fun k => [.int .i64 k.p, .int .i64 k.m]
def standOf (k : Knot) : Stand := ⟨k.p, k.m⟩
/-- What the body of Wall's loop keeps: the list of stands. -/
def WJ (lb : Nat) (pre : Pre) (own : Nat → Prop) (X : World) : Prop :=
  ∃ v, own = (fun j => j = lb ∨ v.ownBlock = some j) ∧ X.cell? ⟨lb, 0, none⟩ = some v ∧ X.frozen? ⟨lb, 0, none⟩ = false ∧ X.ownsRow (lb + 1) 46 2 v pre.length (scells (pre.map fun x => standOf x.1)) ∧ (v = .slice none 0 0 ↔ pre = [])
def WM (lb : Nat) (a : Act) (pre : Pre) (k : Knot) (i : Nat) (a' : Act) (_ : Pre) (own : Nat → Prop) (X : World) : Prop :=
  ∃ v kb g, own = (fun j => j = lb ∨ v.ownBlock = some j ∨ j = kb) ∧ lb < kb ∧ v.ownBlock ≠ some kb ∧ X.cell? ⟨lb, 0, none⟩ = some v ∧ X.frozen? ⟨lb, 0, none⟩ = false ∧ X.ownsRow (lb + 1) 46 2 v pre.length (scells (pre.map fun x => standOf x.1)) ∧ (v = .slice none 0 0 ↔ pre = []) ∧
    X.cell? ⟨kb, 0, none⟩ = some (.int .i64 k.p) ∧ X.cell? ⟨kb, 1, none⟩ = some (.int .i64 k.m) ∧ X.cell? ⟨kb, 2, none⟩ = some (.int .i64 k.e) ∧
    a' = ⟨((a.tmps.setIfInBounds 29 (.agg #[.int .i64 k.p, .int .i64 k.m, .int .i64 k.e])).setIfInBounds 30 (ptr g)).setIfInBounds 12 (.pointer (some ⟨kb, 0, none⟩)), []⟩
theorem own_same {w w' : World} {base : Nat} {e : TypeId} {size n : Nat} {v : Value} {xs : List Value} (h : w.ownsRow base e size v n xs) (hs : w.heap.size ≤ w'.heap.size) (hb : ∀ g, v.ownBlock = some g → w'.heap[g]? = w.heap[g]?) : w'.ownsRow base e size v n xs := by
  refine ⟨h.1, ?_⟩
  rcases h.2 with hn | ⟨g, cap, cur, rfl, hbb, hgg, rest⟩
  · exact .inl hn
  · exact .inr ⟨g, cap, cur, rfl, hbb, (hb g rfl).trans hgg, rest⟩
theorem WJ.stable (lb : Nat) : Stable (WJ lb) := by
  rintro pre own X Y ⟨v, rfl, h1, h2, h3, h4⟩ s1 s2 s3 s4 hk
  have e := hk lb (.inl rfl)
  exact ⟨v, rfl, (World.cell?_of_block e).trans h1, (World.frozen?_of_block e).trans h2, own_same h3 s1 (fun g hg => hk g (.inr hg)), h4⟩
theorem WJ.lies (lb : Nat) : Lies lb (WJ lb) := by
  rintro pre own X ⟨v, rfl, h1, h2, h3, h4⟩ k hk
  rcases hk with rfl | hk
  · exact ⟨World.block_lt_of_cell? X _ h1, Nat.le_refl _⟩
  · have := h3.lt k hk; have := own_base h3 k hk; omega
theorem WM.stable (lb : Nat) (a : Act) (pre0 : Pre) (k : Knot) (i : Nat) (a' : Act) : Stable (WM lb a pre0 k i a') := by
  rintro pre own X Y ⟨v, kb, g, rfl, h1, h2, h3, h4, h5, h6, h7, h8, h9, h10⟩ s1 s2 s3 s4 hk
  have e := hk lb (.inl rfl)
  have e2 := hk kb (.inr (.inr rfl))
  exact ⟨v, kb, g, rfl, h1, h2, (World.cell?_of_block e).trans h3, (World.frozen?_of_block e).trans h4, own_same h5 s1 (fun g hg => hk g (.inr (.inl hg))), h6, (World.cell?_of_block e2).trans h7, (World.cell?_of_block e2).trans h8, (World.cell?_of_block e2).trans h9, h10⟩
theorem WM.lies (lb : Nat) (a : Act) (pre0 : Pre) (k : Knot) (i : Nat) (a' : Act) : Lies lb (WM lb a pre0 k i a') := by
  rintro pre own X ⟨v, kb, g, rfl, h1, h2, h3, h4, h5, h6, h7, h8, h9, h10⟩ j hk
  rcases hk with rfl | hk | rfl
  · exact ⟨World.block_lt_of_cell? X _ h3, Nat.le_refl _⟩
  · have := h5.lt j hk; have := own_base h5 j hk; omega
  · exact ⟨World.block_lt_of_cell? X _ h7, by omega⟩

/-- What follows the search in Wall: the sort's contract. -/
def SortOk : Prop := ∀ (W : World) (base : Nat) (v : Value) (ks : List Stand), W.ownsRow base 46 2 v ks.length (scells ks) → base ≤ W.heap.size → ks.length ≤ 1000000 →
  Calls Tryd.prog 44 #[v, .func (.func 45) #[] #[]] W fun e W' => e = .returned (.tuple #[]) ∧ ∃ ks' : List Stand, ks'.Perm ks ∧ ks'.Pairwise (fun a b => 0 ≤ cfS b a) ∧ W'.ownsRow base 46 2 v ks'.length (scells ks') ∧ Fr (fun j => v.ownBlock = some j) W W'

/-- What Wall tells. -/
def WallPost (v : Vis) (place minute : Int) (w : World) (e : Ending) (w' : World) : Prop := ∃ (u : Value) (c : Int), e = .returned (.tuple #[u, .int .i64 c]) ∧ Below w.heap.size w w' ∧ errOf v place minute c ∧ (c ≠ 0 → u = .slice none 0 0) ∧
      (c = 0 → ∃ (m : Int) (pre : Pre) (ks : List Stand), IsLeast (netArcs v place minute) m ∧ IsWall (netArcs v place minute) m (reachB pre) ∧ (∃ A', ends A' = ends (netArcs v place minute) ∧ Tree A' pre) ∧ ks.Perm (pre.map fun x => standOf x.1) ∧ ks.Pairwise (fun a b => 0 ≤ cfS b a) ∧ w'.ownsRow w.heap.size 46 2 u ks.length (scells ks) ∧ (u = .slice none 0 0 ↔ ks = []))

set_option maxRecDepth 100000 in
set_option maxHeartbeats 2000000 in
theorem wall_in (hsort : SortOk) (n : Nat) (v : Vis) (A0 A1 A2 : Option Addr) (c0 c1 c2 : Nat) (place minute : Int) (w : World) (hv : VisAt w v A0 A1 A2 c0 c1 c2) (hG : Glob w) (hw2 : 2 ≤ w.heap.size) :
    CallsIn Fence.wide n Tryd.prog 18 #[.agg #[.slice A0 v.rooms.length c0, .slice A1 v.trails.length c1, .slice A2 v.arrivals.length c2], .int .i64 place, .int .i64 minute] w fun e w' => WallPost v place minute w e w' := by
  obtain ⟨c, hc⟩ := errOf_ex v place minute
  have hm0 := Kd.C_max hv.r0
  obtain ⟨W2, hW2⟩ : ∃ W2, W2 = (w.alloc (.cells #[.slice A0 v.rooms.length c0, .slice A1 v.trails.length c1, .slice A2 v.arrivals.length c2] 26)).alloc (.cells #[.int .i64 place, .int .i64 minute] 46) := ⟨_, rfl⟩
  have hB2 : Below w.heap.size w W2 := by rw [hW2]; exact ((Below.refl _ w).alloc (Nat.le_refl _) _).alloc (by simp) _
  have hs2 : W2.heap.size = w.heap.size + 2 := by rw [hW2]; simp
  have hv0 : W2.heap[w.heap.size]? = some (.cells #[.slice A0 v.rooms.length c0, .slice A1 v.trails.length c1, .slice A2 v.arrivals.length c2] 26) := by rw [hW2]; exact heap_old _ _ (heap_new' w _ _ rfl)
  have hv1 : W2.heap[w.heap.size + 1]? = some (.cells #[.int .i64 place, .int .i64 minute] 46) := by rw [hW2]; exact heap_new' _ _ _ (by simp)
  have HGW : Hid (∀ X, Below W2.heap.size W2 X → Glob X) := fun X hX => (hG.below hB2 hw2).below hX (by omega)
  have HE : Hid (∀ (n : Nat) X, Below W2.heap.size W2 X → CallsIn Fence.wide n Tryd.prog 30 #[.agg #[.slice A0 v.rooms.length c0, .slice A1 v.trails.length c1, .slice A2 v.arrivals.length c2], .agg #[.int .i64 place, .int .i64 minute]] X fun e w' => e = .returned (.int .i64 c) ∧ Below W2.heap.size W2 w') := by
    intro n X hX
    refine callsIn_wide.2 ((errorOf_any v A0 A1 A2 c0 c1 c2 place minute X ((hv.below hB2).below hX)).mono ?_)
    rintro e w' ⟨c', rfl, hb, hc'⟩
    exact ⟨by rw [errOf_inj hc' hc], hX.trans (hb.mono hX.size)⟩
  have HN : Hid (c = 0 → ∀ (n : Nat) X, Below W2.heap.size W2 X → CallsIn Fence.wide n Tryd.prog 40 #[.agg #[.slice A0 v.rooms.length c0, .slice A1 v.trails.length c1, .slice A2 v.arrivals.length c2], .agg #[.int .i64 place, .int .i64 minute]] X fun e Y => e = .returned (.map (some (X.heap.size + 2))) ∧ Below W2.heap.size W2 Y ∧
      ∀ n', CallsIn Fence.wide n' Tryd.prog 41 #[.map (some (X.heap.size + 2))] Y fun e Z => ∃ (m : Int) (A' : List Arc) (bs : List Nat) (f : Knot → Option Value) (top : Nat), e = .returned (.int .i64 m) ∧ Below W2.heap.size W2 Z ∧ Fl (netArcs v place minute) A' m ∧ Caps 1000 A' ∧ NetMem Z (X.heap.size + 2) top (X.heap.size + 2) A' bs f ∧ Full A' ∧ A'.length ≤ 1000000) := by
    intro h0 n X hX
    obtain ⟨hok, hp⟩ := errOf_zero (h0 ▸ hc)
    refine callsIn_wide.2 ((newNet_any v A0 A1 A2 c0 c1 c2 place minute X ((hv.below hB2).below hX) hok ((hG.below hB2 hw2).below hX (by omega)) ⟨hp.1, hp.2.1⟩ ⟨hp.2.2.1, hp.2.2.2⟩).mono ?_)
    rintro e Y ⟨rfl, ⟨bs, f, top, hn⟩, hb⟩
    have hBY := hX.trans (hb.mono hX.size)
    refine ⟨rfl, hBY, fun n' => ?_⟩
    have hfr := fresh_net v hok place minute ⟨hp.1, hp.2.1⟩ hp.2.2.1
    have hlen : (netArcs v place minute).length ≤ 1000000 := by
      unfold netArcs
      have h1 := upto_length (minuteArcs v minute) 48 (fun i => by have := minuteArcs_length v minute i; have := hok.n8; have := hok.t16; omega) (minute + 1).toNat
      have h2 := upto_length (arrArc v minute) 2 (arrArc_length v minute) v.arrivals.length
      have := hok.a16
      simp only [List.length_append, two, List.length_cons, List.length_nil]
      omega
    have htop : X.heap.size + 2 ≤ top := by have := hn.rm.hi; omega
    refine (fill_in n' (X.heap.size + 2) top (X.heap.size + 2) _ bs f Y hn ((hG.below hB2 hw2).below hBY (by omega)) (by have := hX.size; omega) htop hlen 1000 (by omega) (by omega) hfr.caps (fun S => hfr.zero S)).mono ?_
    rintro e Z ⟨m, A', rfl, hfl, hcp, hnm, hfull, hF⟩
    refine ⟨m, A', bs, f, top, rfl, hBY.trans (hF.below (by have := hb.size; have := hX.size; omega) (fun k hk hm => by have := hnm.rng k hm; have := hX.size; omega)), hfl, hcp, hnm, hfull, ?_⟩
    have := congrArg List.length hfl.ends
    simp [ends] at this
    omega
  have HZ : Hid (c = 0 → ∀ S : Knot → Bool, Flow.net S (pairs (netArcs v place minute)) = 0) := fun h0 S => by
    obtain ⟨hok, hp⟩ := errOf_zero (h0 ▸ hc)
    exact (fresh_net v hok place minute ⟨hp.1, hp.2.1⟩ hp.2.2.1).zero S
  have HB2 := Lib.hid hB2
  have HC := Lib.hid hc
  have HSO := Lib.hid hsort
  have hHB : ∀ X, Below W2.heap.size W2 X → X.cell? ⟨w.heap.size, 0, none⟩ = some (.slice A0 v.rooms.length c0) ∧ X.cell? ⟨w.heap.size, 1, none⟩ = some (.slice A1 v.trails.length c1) ∧ X.cell? ⟨w.heap.size, 2, none⟩ = some (.slice A2 v.arrivals.length c2) ∧ X.cell? ⟨w.heap.size + 1, 0, none⟩ = some (.int .i64 place) ∧ X.cell? ⟨w.heap.size + 1, 1, none⟩ = some (.int .i64 minute) := by
    intro X hX
    have h := blk_below hv0 hX
    have h' := blk_below hv1 hX
    exact ⟨cell_of_heap h 0 _ rfl, cell_of_heap h 1 _ rfl, cell_of_heap h 2 _ rfl, cell_of_heap h' 0 _ rfl, cell_of_heap h' 1 _ rfl⟩
  have HHB := Lib.hid hHB
  have HW2 := Lib.hid hW2
  clear hv hv0 hv1 hHB hB2 hc hG hW2 hsort
  refine callsIn_of_wp_marks Tryd.func18 rfl trivial ?_ rfl
  simp only [Tryd.ntmps18, List.size_toArray, List.length_cons, List.length_nil, Nat.reduceAdd, Nat.reduceSub, Array.replicate_succ, Array.replicate_zero, List.push_toArray, List.append_toArray, List.nil_append, List.cons_append]
  by_cases hc0 : c = 0
  · subst hc0
    have HN' := Lib.hid (HN.out rfl)
    have HZ' := Lib.hid (HZ.out rfl)
    clear HN HZ
    gi_wp2_with (first
      | (refine ⟨trivial, by simp [Fence.wide], (HE.out _ _ (by rw [← HW2.out]; exact Below.refl _ _)).mono ?_⟩; rintro e X ⟨rfl, hb⟩; have HX := Lib.hid hb; have hg := HHB.out X hb; have y0 := hg.1; have y1 := hg.2.1; have y2 := hg.2.2.1; have y3 := hg.2.2.2.1; have y4 := hg.2.2.2.2; clear hb hg)
      | (refine ⟨trivial, by simp [Fence.wide], (HN'.out _ _ HX.out).mono ?_⟩; rintro e Y ⟨rfl, hb, hfill⟩; have HY := Lib.hid hb; have HFI := Lib.hid hfill; clear hb hfill)
      | (refine ⟨trivial, by simp [Fence.wide], (HFI.out _).mono ?_⟩; rintro e Z ⟨m, A', bs, f, top, rfl, hb, hfl, hcp, hnm, hfu, hlen⟩; have HBZ := Lib.hid hb; have HFL := Lib.hid hfl; have HCP := Lib.hid hcp; have HNM := Lib.hid hnm; have HFU := Lib.hid hfu; have HLEN := Lib.hid hlen; clear hb hfl hcp hnm hfu hlen)
      | (refine ⟨trivial, by simp [Fence.wide], (reachOf_in _ _ _).mono ?_⟩; rintro e X9 ⟨rfl, rfl⟩))
    have hbt : top ≤ Z.heap.size := HNM.out.rm.size
    have hlo : X.heap.size + 2 ≤ top := by have := HNM.out.rm.hi; omega
    have hX2 : w.heap.size + 2 ≤ X.heap.size := by have := HX.out.size; omega
    have hFW : Fr (fun _ => False) Z ((Z.alloc (Obj.cells #[Value.slice none 0 0] 36)).alloc (Obj.cells #[Value.map (some (X.heap.size + 2))] 77)) := ((Fr.refl _ Z).alloc _).alloc _
    have HBW : Hid (Below W2.heap.size W2 ((Z.alloc (Obj.cells #[Value.slice none 0 0] 36)).alloc (Obj.cells #[Value.map (some (X.heap.size + 2))] 77))) := HBZ.out.trans (hFW.below (by omega) (fun _ _ h => h))
    refine range_reach (Bn := Z.heap.size + 1) (base := X.heap.size + 2) (top := Z.heap.size) (b := X.heap.size + 2) (A := A') (bs := bs) (f := f) rfl rfl ((HNM.out.fr hFW (fun _ _ _ h => h)).up hbt (by simp; omega)) (HGW.out _ HBW.out) (by omega) (by omega) HLEN.out
      ?_ (by omega) (WJ Z.heap.size) (fun _ _ _ _ => False) (WM Z.heap.size) (fun j => j = Z.heap.size ∨ (Value.slice none 0 0).ownBlock = some j) ?_ (by simp [Value.ownBlock]) (WJ.lies _) (WJ.stable _) (fun _ _ _ _ h => h.elim) (fun _ _ _ _ _ h => h.elim) (WM.lies _ _) (WM.stable _ _) ?assign ?body ?done ?stop
    · exact cell_new' _ _ _ (by simp) rfl
    · exact ⟨_, rfl, cell_alloc' _ (cell_new' _ _ _ rfl rfl), by simp [World.frozen?, heap_old _ _ (heap_new' Z _ _ rfl)], World.ownsRow_nil _ _ _ _, by simp⟩
    case assign =>
      intro l pre own k i a0 g X1 hJ hbX ha hd hg ht
      gi_wp2
      obtain ⟨v1, rfl, h1, h2, h3, h4⟩ := hJ
      have hlt := World.block_lt_of_cell? X1 _ h1
      refine ⟨fun j => j = Z.heap.size ∨ v1.ownBlock = some j ∨ j = X1.heap.size, ?_, (Fr.refl _ X1).alloc _, v1, X1.heap.size, g, rfl, hlt, ?_, cell_alloc' _ h1, ?_, h3.alloc _, h4, ?_, ?_, ?_, rfl⟩
      · rintro j (h | h | h)
        · exact .inl (.inl h)
        · exact .inl (.inr h)
        · exact .inr (by omega)
      · intro e; have := h3.lt _ e; omega
      · exact (World.frozen?_of_block (Below.heap_alloc _ _ _ hlt)).trans h2
      · exact cell_new' _ _ _ rfl rfl
      · exact cell_new' _ _ _ rfl rfl
      · exact cell_new' _ _ _ rfl rfl
    case body =>
      rintro l pre own k i a0 g a' X1 ⟨v1, kb, g', rfl, hkb, hvk, h1, h2, h3, h4, d0, d1, d2, rfl⟩ hbX ha hd hg ht
      simp only [List.setIfInBounds_toArray, List.set_cons_zero, List.set_cons_succ]
      obtain ⟨i46, hi, hz0, hz1, hz2⟩ := info_parts info46
      have HI : Hid (Tryd.prog.info? 46 = some i46 ∧ i46.zero = some (.agg #[.int .i64 0, .int .i64 0]) ∧ i46.size = 2 ∧ i46.bytes = 16) := ⟨hi, hz0, hz1, hz2⟩
      have hpl : pre.length ≤ 1000000 := by have h := ht.length_le; have := HLEN.out; simp at h; omega
      have hkl := World.block_lt_of_cell? X1 _ d0
      have hll := World.block_lt_of_cell? X1 _ h1
      simp only at hkl hll
      have HROW := Lib.hid h3
      have HV := Lib.hid h4
      have HVK := Lib.hid hvk
      have HVL : Hid (v1.ownBlock ≠ some Z.heap.size) := fun e => by have := own_base h3 _ e; omega
      clear h3 h4 hvk hi hz0 hz1 hz2
      gi_wp2_with (first | (gi_at_builtin; refine wpListIn_append_own_at _ rfl _ _ 36 rfl (Z.heap.size + 1) 46 i46 (.agg #[.int .i64 0, .int .i64 0]) 2 16 Tryd.underlying36 HI.out.1 HI.out.2.1 HI.out.2.2.1 HI.out.2.2.2 rfl (by decide) v1 pre.length _ rfl (HROW.out.alloc _) ⟨X1.heap.size, 0, none⟩ 1 1 [.int .i64 k.p, .int .i64 k.m] rfl rfl (World.news_of_block (cs := #[Value.int IntKind.i64 k.p, Value.int IntKind.i64 k.m]) (t := 46) (fr := (0, 0)) (heap_alloc_new X1 _)) (by simp [Value.oneCell']) (by simp only [maxLen]; omega) (by omega) (by simp; omega) ?_; intro v2 Y1 hown1 hgrow1 _ hat1; have HAT := Lib.hid hat1; obtain ⟨gw, capw, rfl⟩ := ownsRow_succ hown1; have HOWN := Lib.hid hown1; have HGR := Lib.hid hgrow1; have hbl : Y1.heap[Z.heap.size]? = X1.heap[Z.heap.size]? := (hgrow1.block _ (by simp; omega) (fun e => HVL.out e.symm)).trans (Below.heap_alloc _ _ _ hll); have e1 := (World.cell?_of_block (a := ⟨Z.heap.size, 0, none⟩) hbl).trans h1; have e2 := (World.frozen?_of_block (a := ⟨Z.heap.size, 0, none⟩) hbl).trans h2; clear hown1 hgrow1 hbl hat1))
      have hY1 := HGR.out.size
      simp only [World.size_alloc] at hY1
      have hat : gw ≠ Z.heap.size := by
        intro e
        rcases HAT.out with h | h
        · exact HVL.out (by rw [← h, ← e]; rfl)
        · simp [Value.ownBlock] at h; omega
      refine ⟨fun j => j = Z.heap.size ∨ (Value.slice (some ⟨gw, 0, none⟩) (pre.length + 1) capw).ownBlock = some j, ?_, ?_, _, rfl, ?_, ?_, ?_, by simp⟩
      · rintro j (h | h)
        · exact .inl (.inl h)
        · rcases HAT.out with h' | h'
          · exact .inl (.inr (.inl (h' ▸ h)))
          · rw [h'] at h; injection h with h; simp at h; exact .inr (by omega)
      · refine Fr.setCell (((Fr.refl _ X1).alloc _).grown HGR.out (fun j e => .inl (.inr (.inl e)))) (.inl rfl) _
      · exact World.cell?_setCell_same' _ _ _ (by rw [e1]; rfl)
      · rw [World.frozen?_setCell]; exact e2
      · have hset : Fr (fun j => j = Z.heap.size) Y1 (Y1.setCell ⟨Z.heap.size, 0, none⟩ (Value.slice (some ⟨gw, 0, none⟩) (pre.length + 1) capw)) := Fr.setCell (S := fun j => j = Z.heap.size) (Fr.refl _ Y1) (p := ⟨Z.heap.size, 0, none⟩) rfl _
        have h := own_fr HOWN.out hset (fun j hj e => by simp [Value.ownBlock] at hj; omega)
        have e3 : scells ((pre ++ [(k, i)]).map fun x => standOf x.1) = scells (pre.map fun x => standOf x.1) ++ [.int .i64 k.p, .int .i64 k.m] := by simp [scells, standOf]
        rw [e3, List.length_append]
        exact h
    case stop => exact fun _ _ _ _ _ _ _ _ h _ _ => h.elim
    case done =>
      rintro D pre own X1 hD hDX ht hdo ⟨v1, rfl, h1, h2, h3, h4⟩ hoD hbX
      simp only [World.size_alloc] at hD
      have hpl : pre.length ≤ 1000000 := by have h := ht.length_le; have := HLEN.out; omega
      have hbX' : Below w.heap.size w X1 := (HB2.out.trans (HBW.out.mono (by omega))).trans (hbX.mono (by omega))
      have hszX : Z.heap.size + 2 ≤ X1.heap.size := by have := hbX.size; simp at this; omega
      have hso := HSO.out X1 (Z.heap.size + 1) v1 (pre.map fun x => standOf x.1) (by rw [List.length_map]; exact h3) (by omega) (by rw [List.length_map]; exact hpl)
      have hlb : D ≠ Z.heap.size := fun e => hoD (.inl e)
      have hvD : v1.ownBlock ≠ some D := fun e => hoD (.inr e)
      have hvl : v1.ownBlock ≠ some Z.heap.size := fun e => by have := own_base h3 _ e; omega
      have HS1 := Lib.hid hso
      have HR1 := Lib.hid h3
      have HV1 := Lib.hid h4
      have HT1 := Lib.hid ht
      have HD1 := Lib.hid hdo
      have HDX := Lib.hid hDX
      have HBX := Lib.hid hbX'
      have HVD := Lib.hid hvD
      have HVL := Lib.hid hvl
      obtain ⟨Av, cv, hv1⟩ := own_slice h3
      subst hv1
      clear hso h3 h4 ht hdo hDX hbX' hvD hvl
      gi_wp2_with (first
        | (refine ⟨trivial, by simp [Fence.wide], (callsIn_wide.2 HS1.out).mono ?_⟩; rintro e Y1 ⟨rfl, ks, hpm, hpw, hrow, hfr⟩; have hbl : Y1.heap[Z.heap.size]? = X1.heap[Z.heap.size]? := hfr.block _ (by omega) HVL.out; have e1 := (World.cell?_of_block (a := ⟨Z.heap.size, 0, none⟩) hbl).trans h1; have HPM := Lib.hid hpm; have HPW := Lib.hid hpw; have HROW := Lib.hid hrow; have HFR := Lib.hid hfr; clear hpm hpw hrow hfr hbl))
      have hy := HFR.out.size
      refine leaves_marks (B := w.heap.size) _ Y1 ?_ ?_
      · refine Marks.cons ⟨by simp, List.nodup_nil⟩ (by omega) (HFR.out.heap HDX.out HVD.out) (by simp)
      · intro W' hW'
        refine ⟨_, results_tmp2 rfl _ _ _, ?_⟩
        have hYB : Below w.heap.size w Y1 := HBX.out.trans (HFR.out.below (by have := HBX.out.size; omega) (fun k hk e => by have := own_base HR1.out k e; omega))
        have hWB := hYB.trans (hW'.below (by have := HBX.out.size; omega) (fun k hk h => by omega))
        have hrow' : Y1.ownsRow w.heap.size 46 2 (.slice Av pre.length cv) ks.length (scells ks) := by
          refine ⟨HROW.out.1, ?_⟩
          rcases HROW.out.2 with h | ⟨g, cap, cur, h1, h2, h3⟩
          · exact .inl h
          · exact .inr ⟨g, cap, cur, h1, by omega, h3⟩
        obtain ⟨pre0, ht0, hd0, hs0⟩ := HFU.out
        have hsn : snk ∉ pre.map (·.1) := by
          intro hm
          have h := HT1.out.within (reachB pre0) (by simp [reachB, reached]) (full_closed hd0) snk (.inr hm)
          simp only [reachB, decide_eq_true_eq] at h
          rcases h with h | h
          · exact absurd h (by decide)
          · exact hs0 h
        obtain ⟨hle, hwl⟩ := full_wall HFL.out HNM.out.backs HCP.out HZ'.out HT1.out HD1.out hsn
        have hkl : ks.length = pre.length := by have := HPM.out.length_eq; simpa using this
        refine ⟨_, 0, rfl, hWB, HC.out, fun h => absurd rfl h, fun _ => ⟨m, pre, ks, hle, hwl, ⟨A', HFL.out.ends, HT1.out⟩, HPM.out, HPW.out, ?_, ?_⟩⟩
        · refine own_fr hrow' hW' (fun g hg h => ?_)
          rcases hrow'.2 with h2 | ⟨g2, cap, cur, h1, h2, h3, _⟩
          · rw [h2.1] at hg; simp [Value.ownBlock] at hg
          · rw [h1] at hg; simp [Value.ownBlock] at hg; subst hg
            have h4 := h.2
            rw [h3] at h4
            cases h4
        · show (Value.slice Av pre.length cv = .slice none 0 0 ↔ ks = [])
          rw [HV1.out, ← List.length_eq_zero_iff (l := ks), hkl, List.length_eq_zero_iff]
  · gi_wp2_with (first
      | (refine ⟨trivial, by simp [Fence.wide], (HE.out _ _ (by rw [← HW2.out]; exact Below.refl _ _)).mono ?_⟩; rintro e X ⟨rfl, hb⟩; have HX := Lib.hid hb; clear hb))
    refine ⟨_, results_tmp2 rfl _ _ _, ?_⟩
    exact ⟨.slice none 0 0, c, rfl, HB2.out.trans (HX.out.mono (by omega)), HC.out, fun _ => rfl, fun h => absurd h hc0⟩
end Go.Proofs.YtnhcpflenajeaaaDoor
