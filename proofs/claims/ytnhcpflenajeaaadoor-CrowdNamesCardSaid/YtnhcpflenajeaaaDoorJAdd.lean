/- Texts of this seat, joined: Add. -/
import Derived.Test.YtnhcpflenajeaaaDoorJMem
import Derived.Lib.Hide
import Derived.WalkSpells
import Derived.Deep.RegionHeld3
import Derived.Deep.AppendLies
set_option linter.unusedVariables false
set_option linter.unusedSimpArgs false
namespace Go.Proofs.YtnhcpflenajeaaaDoor
open Go.RowKit Go.Proofs.YtnhcpflenajeaaaDoorW.PrintWords Go.Proofs.YtnhcpflenajeaaaDoorW.PrintMore Mem

theorem info99 : (Tryd.prog.info? 99).map (fun i => (i.zero, i.size, i.bytes)) = some (some (.pointer none), 1, 8) := by kernel_rfl

theorem heap_new' (X : World) (o : Obj) (n : Nat) (hn : n = X.heap.size) : (X.alloc o).heap[n]? = some o := by rw [hn]; exact heap_alloc_new X o
theorem heap_old {X : World} (o : Obj) (n : Nat) {o' : Obj} (h : X.heap[n]? = some o') : (X.alloc o).heap[n]? = some o' := (Below.heap_alloc X o n (Array.getElem?_eq_some_iff.1 h).1).trans h

theorem own_ne_cells {w : World} {base : Nat} {e t : TypeId} {size n k : Nat} {v : Value} {xs : List Value} {cs : Array Value} {fz : Nat × Nat} (h : w.ownsRow base e size v n xs) (hk : w.heap[k]? = some (.cells cs t fz)) (hne : t ≠ e) : v.ownBlock ≠ some k := by
  intro hb
  rcases h.2 with ⟨rfl, _⟩ | ⟨g, cap, cur, rfl, _, hgg, _⟩
  · simp [Value.ownBlock] at hb
  · simp [Value.ownBlock] at hb
    subst hb
    rw [hk] at hgg
    injection hgg with hgg
    injection hgg with _ h2
    exact hne h2

set_option maxRecDepth 100000 in
theorem add_any (base top b : Nat) (A : List Arc) (bs : List Nat) (f : Knot → Option Value) (fr : Knot) (room : Int) (kt : Knot) (gt : Nat) (c : Nat) (w : World) (hnet : NetMem w base top b A bs f) (hA : A.length ≤ 1000000)
    (h0 : w.cell? ⟨gt, 0, none⟩ = some (.int .i64 kt.p)) (h1 : w.cell? ⟨gt, 1, none⟩ = some (.int .i64 kt.m)) (h2 : w.cell? ⟨gt, 2, none⟩ = some (.int .i64 kt.e)) :
    Calls Tryd.prog 53 #[.map (some b), .agg #[.int .i64 fr.p, .int .i64 fr.m, .int .i64 fr.e], .int .i64 room, .slice (some ⟨gt, 0, none⟩) 1 c] w fun e w' => e = .returned (.tuple #[]) ∧
      ∃ f' bs', NetMem w' base w'.heap.size b (A ++ [⟨fr, kt, room⟩, ⟨kt, fr, 0⟩]) (bs ++ bs') f' ∧ Below base w w' ∧ (∀ (k : Nat) (cs : Array Value) (t : TypeId) (fz : Nat × Nat), w.heap[k]? = some (Obj.cells cs t fz) → t ≠ 99 → w'.heap[k]? = some (Obj.cells cs t fz)) := by
  have hlt := World.block_lt_of_cell? w _ h0
  have HN : Hid (NetMem w base top b A bs f) := hnet
  clear hnet
  obtain ⟨W4, hW4⟩ : ∃ W4, W4 = (((((w.alloc (Obj.cells #[Value.int IntKind.i64 fr.p, Value.int IntKind.i64 fr.m, Value.int IntKind.i64 fr.e] 89)).alloc
      (Obj.cells #[Value.int IntKind.i64 kt.p, Value.int IntKind.i64 kt.m, Value.int IntKind.i64 kt.e] 89)).alloc
      (Obj.cells #[Value.int IntKind.i64 kt.p, Value.int IntKind.i64 kt.m, Value.int IntKind.i64 kt.e, Value.int IntKind.i64 room, Value.pointer (some { block := w.heap.size + 1 + 1 + 1, off := 0 })] 102)).alloc
      (Obj.cells #[Value.int IntKind.i64 fr.p, Value.int IntKind.i64 fr.m, Value.int IntKind.i64 fr.e, Value.int IntKind.i64 0, Value.pointer (some { block := w.heap.size + 1 + 1, off := 0 })] 102)).alloc
      (Obj.cells #[Value.pointer (some { block := w.heap.size + 1 + 1, off := 0 })] 99)) := ⟨_, rfl⟩
  have HW4 : Hid (W4 = _) := hW4
  have HF : Hid (Fr (fun _ => False) w W4) := by
    rw [hW4]; exact ((((((Fr.refl _ w).alloc _).alloc _).alloc _).alloc _).alloc _)
  clear hW4
  have HR : Hid (RowsMem W4 base top b f (fun k => (adj A k).map fun i => ptr (bs.getD i 0))) := HN.out.rm.fr HF.out (fun _ _ _ h => h)
  obtain ⟨v, hv⟩ : ∃ v, (f fr).getD (Value.slice none 0 0) = v := ⟨_, rfl⟩
  have HV : Hid ((f fr).getD (Value.slice none 0 0) = v) := hv
  have hv' : rowOf f fr = v := hv
  have HROW : Hid (W4.ownsRow base 99 1 v ((adj A fr).map fun i => ptr (bs.getD i 0)).length ((adj A fr).map fun i => ptr (bs.getD i 0))) := by
    have := (HR.out.row fr).1
    rw [hv'] at this
    exact this
  have HNE : Hid (v.ownBlock ≠ some b) := own_ne_map HROW.out HR.out.map
  have HLEN : Hid (((adj A fr).map fun i => ptr (bs.getD i 0)).length ≤ A.length) := by simp [Hid, adj]; exact adjF_length _ _ _
  obtain ⟨xs, hxs⟩ : ∃ xs, ((adj A fr).map fun i => ptr (bs.getD i 0)) = xs := ⟨_, rfl⟩
  rw [hxs] at HROW HLEN
  have HXS : Hid (((adj A fr).map fun i => ptr (bs.getD i 0)) = xs) := hxs
  clear hv hv' hxs
  have H44 : Hid (W4.heap[w.heap.size + 1 + 1 + 1 + 1]? = some (.cells #[ptr (w.heap.size + 1 + 1)] 99 (0, 0))) := by
    rw [HW4.out]; exact heap_new' _ _ _ (by simp)
  have H41 : Hid (W4.heap[w.heap.size + 1]? = some (.cells #[Value.int IntKind.i64 kt.p, Value.int IntKind.i64 kt.m, Value.int IntKind.i64 kt.e] 89 (0, 0))) := by
    rw [HW4.out]; exact heap_old _ _ (heap_old _ _ (heap_old _ _ (heap_new' _ _ _ (by simp))))
  have H42 : Hid (W4.heap[w.heap.size + 1 + 1]? = some (arcObj ⟨fr, kt, room⟩ (w.heap.size + 1 + 1 + 1))) := by
    rw [HW4.out]; exact heap_old _ _ (heap_old _ _ (heap_new' _ _ _ (by simp)))
  have H43 : Hid (W4.heap[w.heap.size + 1 + 1 + 1]? = some (arcObj ⟨kt, fr, 0⟩ (w.heap.size + 1 + 1))) := by
    rw [HW4.out]; exact heap_old _ _ (heap_new' _ _ _ (by simp))
  have HSZ : Hid (W4.heap.size = w.heap.size + 5) := by rw [HW4.out]; simp [Hid]
  obtain ⟨i0, hi0, hz0, hz1, hz2⟩ := info_parts info99
  have HI : Hid (Tryd.prog.info? 99 = some i0 ∧ i0.zero = some (.pointer none) ∧ i0.size = 1 ∧ i0.bytes = 8) := ⟨hi0, hz0, hz1, hz2⟩
  clear hi0 hz0 hz1 hz2
  go_enter Tryd.func53, Tryd.ntmps53
  go_wp2_with fail
  refine wp_loop_rounds 2 ?_
  rw [rounds_succ]
  go_wp2_with (first
    | ((with_reducible refine gate_dst (N := 33) rfl ?_); rw [← HW4.out]; refine arm_entry rfl _ _ rfl key89 Tryd.underlying77 (zero100 _) rfl HR.out.map fr rfl ?_; rw [HV.out]; intro w1 st hm1 hst1 hg1 hs1;
       have HM1 := Lib.hid hm1; have HST1 := Lib.hid hst1; have HG1 := Lib.hid hg1; have HS1 := Lib.hid hs1; clear hm1 hst1 hg1 hs1)
    | ((with_reducible refine gate_dst (N := 34) rfl ?_); refine wpList_append_own_at w1 rfl (.tmp 30) (.tmp 32) 100 rfl base 99 i0 (.pointer none) 1 8 Tryd.underlying100 HI.out.1 HI.out.2.1 HI.out.2.2.1 HI.out.2.2.2 rfl (by omega) v xs.length xs rfl (HROW.out.kept HG1.out (.inr HNE.out)) ⟨w.heap.size + 1 + 1 + 1 + 1, 0, none⟩ 1 1 [ptr (w.heap.size + 1 + 1)] rfl rfl (World.news_of_block (cs := #[ptr (w.heap.size + 1 + 1)]) (t := 99) (fr := (0, 0)) ?n1) (by simp [ptr, Value.oneCell']) ?n2 ?n3 ?n4 ?_;
       (case n1 => exact (HG1.out.block _ (by rw [HSZ.out]; omega) (by have := HR.out.hi; have := HN.out.rm.size; intro e; injection e with e; omega)).trans H44.out);
       (case n2 => have := HLEN.out; simp only [maxLen]; omega); (case n3 => have := HLEN.out; omega);
       (case n4 => have := HR.out.lo; have := HR.out.hi; have := HR.out.size; have := HG1.out.size; omega);
       intro v2 w2 hown2 hg2 _ hat2; have HOWN2 := Lib.hid hown2; have HG2 := Lib.hid hg2; have HAT2 := Lib.hid hat2; clear hown2 hg2 hat2)
    | ((with_reducible refine gate_ (.entryStore 77 (.tmp 28) (.tmp 35) (.tmp 34)) rfl ?_);
       refine arm_store rfl _ _ _ rfl key89 rfl ((HM1.out.kept HG2.out (Ne.symm HNE.out))) (HST1.out.kept HG2.out (Ne.symm HNE.out)) rfl v2 rfl ?_; intro w3 hm3 hg3 hs3; have HM3 := Lib.hid hm3; have HG3 := Lib.hid hg3; have HS3 := Lib.hid hs3; clear hm3 hg3 hs3))
  have HP : Hid (RowsMem w3 base w3.heap.size b (upd f fr v2) (fun y => if y = fr then ((adj A fr).map fun i => ptr (bs.getD i 0)) ++ [ptr (w.heap.size + 1 + 1)] else (adj A y).map fun i => ptr (bs.getD i 0)) ∧ Fr (fun i => i = b ∨ some i = v.ownBlock) W4 w3) := by
    have hr : rowOf f fr = v := HV.out
    have hown : w2.ownsRow base 99 1 v2 (((adj A fr).map fun i => ptr (bs.getD i 0)) ++ [ptr (w.heap.size + 1 + 1)]).length (((adj A fr).map fun i => ptr (bs.getD i 0)) ++ [ptr (w.heap.size + 1 + 1)]) := by
      rw [HXS.out]; have := HOWN2.out; simpa using this
    have := RowsMem.push (w1 := w1) (w2 := w2) (w3 := w3) HR.out fr (ptr (w.heap.size + 1 + 1)) v2 HG1.out hown (by rw [hr]; exact HG2.out) (by rw [hr]; rcases HAT2.out with h | h; exact .inl h; exact .inr ⟨_, h, Nat.le_refl _⟩) (by rw [hr]; exact HM3.out) HG3.out
    rw [hr] at this
    exact this
  have hne1 : ∀ k o, k < W4.heap.size → w.heap.size ≤ k → W4.heap[k]? = some o → w3.heap[k]? = some o := by
    intro k o hk hk' ho
    refine HP.out.2.heap ho ?_
    rintro (e | e)
    · have := HN.out.rm.hi; have := HN.out.rm.size; omega
    · have h2 := (HR.out.row fr).2 k (by rw [show rowOf f fr = v from HV.out]; exact e.symm)
      have := HN.out.rm.size; omega
  have H1 : Hid (w3.heap[w.heap.size + 1]? = some (.cells #[Value.int IntKind.i64 kt.p, Value.int IntKind.i64 kt.m, Value.int IntKind.i64 kt.e] 89 (0, 0))) := hne1 _ _ (by rw [HSZ.out]; omega) (by omega) H41.out
  have H2 : Hid (w3.heap[w.heap.size + 1 + 1]? = some (arcObj ⟨fr, kt, room⟩ (w.heap.size + 1 + 1 + 1))) := hne1 _ _ (by rw [HSZ.out]; omega) (by omega) H42.out
  have H3 : Hid (w3.heap[w.heap.size + 1 + 1 + 1]? = some (arcObj ⟨kt, fr, 0⟩ (w.heap.size + 1 + 1))) := hne1 _ _ (by rw [HSZ.out]; omega) (by omega) H43.out
  clear hne1 HOWN2 HG2 HAT2 HM1 HM3 HG1 HG3 HST1 H41 H42 H43 H44
  obtain ⟨vb, hvb⟩ : ∃ vb, (upd f fr v2 kt).getD (Value.slice none 0 0) = vb := ⟨_, rfl⟩
  have HVB : Hid ((upd f fr v2 kt).getD (Value.slice none 0 0) = vb) := hvb
  clear hvb
  have c0 : w3.cell? ⟨w.heap.size + 1, 0, none⟩ = some (.int .i64 kt.p) := by simp [World.cell?, H1.out]
  have c1 : w3.cell? ⟨w.heap.size + 1, 1, none⟩ = some (.int .i64 kt.m) := by simp [World.cell?, H1.out]
  have c2 : w3.cell? ⟨w.heap.size + 1, 2, none⟩ = some (.int .i64 kt.e) := by simp [World.cell?, H1.out]
  have c3 : w3.cell? ⟨w.heap.size + 1 + 1, 4, none⟩ = some (.pointer (some ⟨w.heap.size + 1 + 1 + 1, 0, none⟩)) := by simp [World.cell?, H2.out, arcObj, ptr]
  clear h0 h1 h2 hlt
  have HRB : Hid (w3.ownsRow base 99 1 vb ((fun y => if y = fr then ((adj A fr).map fun i => ptr (bs.getD i 0)) ++ [ptr (w.heap.size + 1 + 1)] else (adj A y).map fun i => ptr (bs.getD i 0)) kt).length ((fun y => if y = fr then ((adj A fr).map fun i => ptr (bs.getD i 0)) ++ [ptr (w.heap.size + 1 + 1)] else (adj A y).map fun i => ptr (bs.getD i 0)) kt) ∧ ∀ g, vb.ownBlock = some g → g < w3.heap.size) := by
    have := HP.out.1.row kt
    rw [show rowOf (upd f fr v2) kt = vb from HVB.out] at this
    exact this
  have HLB : Hid (((fun y => if y = fr then ((adj A fr).map fun i => ptr (bs.getD i 0)) ++ [ptr (w.heap.size + 1 + 1)] else (adj A y).map fun i => ptr (bs.getD i 0)) kt).length ≤ A.length + 1) := by
    have h1 := adjF_length fr 0 A
    have h2 := adjF_length kt 0 A
    simp only [Hid]
    split
    · simp [adj]; omega
    · simp [adj]; omega
  generalize hys : ((fun y => if y = fr then ((adj A fr).map fun i => ptr (bs.getD i 0)) ++ [ptr (w.heap.size + 1 + 1)] else (adj A y).map fun i => ptr (bs.getD i 0)) kt) = ys at HRB HLB
  have HYS := Lib.hid hys
  clear hys
  have HNB : Hid (vb.ownBlock ≠ some b) := own_ne_map HRB.out.1 HP.out.1.map
  obtain ⟨w4, st4, hrun4, hm4, hst4, hg4, hs4⟩ := MapFn.entry (t := 77) key89 Tryd.underlying77 (zero100 _) (MapFn.drew (HP.out.1.map.alloc (Obj.cells #[Value.pointer (some { block := w.heap.size + 1 + 1 + 1, off := 0 })] 99))) kt
  rw [HVB.out] at hrun4 hm4
  replace hrun4 : Sem.run Tryd.prog (Instr.mapEntry 77 (Value.map (some b)) (Value.agg #[Value.int IntKind.i64 kt.p, Value.int IntKind.i64 kt.m, Value.int IntKind.i64 kt.e])) (w3.alloc (Obj.cells #[Value.pointer (some { block := w.heap.size + 1 + 1 + 1, off := 0 })] 99)).drew = Result.ok (.tuple #[vb, .int .i64 st4]) w4 := hrun4
  have HM4 := Lib.hid hm4
  have HST4 := Lib.hid hst4
  have HG4 := Lib.hid hg4
  have HS4 : Hid (w4.heap.size = w3.heap.size + 1) := by rw [hs4]; simp [Hid]
  clear hm4 hst4 hg4 hs4
  have HROW4 : Hid (w4.ownsRow base 99 1 vb ys.length ys) := ((HRB.out.1.alloc _).drew).kept HG4.out (.inr HNB.out)
  have HN4 : Hid (w4.heap[w3.heap.size]? = some (.cells #[ptr (w.heap.size + 1 + 1 + 1)] 99 (0, 0))) := by
    refine (HG4.out.block w3.heap.size (by simp) ?_).trans (heap_new' w3 _ _ rfl)
    intro e; injection e with e; have := HP.out.1.hi; omega
  have HB4 : Hid (base ≤ w4.heap.size) := by show base ≤ w4.heap.size; have := HP.out.1.lo; have := HP.out.1.hi; rw [HS4.out]; omega
  have hbn : Hid (b < w.heap.size) := Nat.lt_of_lt_of_le HN.out.rm.hi HN.out.rm.size
  have HE1 : Hid (vb.ownBlock ≠ some (w.heap.size + 1)) := own_ne_cells HRB.out.1 H1.out (by decide)
  have HE2 : Hid (vb.ownBlock ≠ some (w.heap.size + 1 + 1)) := own_ne_cells HRB.out.1 H2.out (by decide)
  have HE3 : Hid (vb.ownBlock ≠ some (w.heap.size + 1 + 1 + 1)) := own_ne_cells HRB.out.1 H3.out (by decide)
  have k4 : ∀ k o, w.heap.size ≤ k → w3.heap[k]? = some o → w4.heap[k]? = some o := by
    intro k o hk ho
    have hl := (Array.getElem?_eq_some_iff.1 ho).1
    exact (HG4.out.block k (by show k < (w3.alloc _).heap.size; simp; omega) (by have := hbn.out; intro e; injection e with e; omega)).trans (heap_old _ _ ho)
  have H14 : Hid _ := k4 _ _ (by omega) H1.out
  have H24 : Hid _ := k4 _ _ (by omega) H2.out
  have H34 : Hid _ := k4 _ _ (by omega) H3.out
  clear k4
  have d0 : w4.cell? ⟨w.heap.size + 1, 0, none⟩ = some (.int .i64 kt.p) := by simp [World.cell?, H14.out]
  have d1 : w4.cell? ⟨w.heap.size + 1, 1, none⟩ = some (.int .i64 kt.m) := by simp [World.cell?, H14.out]
  have d2 : w4.cell? ⟨w.heap.size + 1, 2, none⟩ = some (.int .i64 kt.e) := by simp [World.cell?, H14.out]
  have d3 : w4.cell? ⟨w.heap.size + 1 + 1, 4, none⟩ = some (.pointer (some ⟨w.heap.size + 1 + 1 + 1, 0, none⟩)) := by simp [World.cell?, H24.out, arcObj, ptr]
  go_region_held3 (fun W => W.cell? ⟨w.heap.size + 1, 0, none⟩ = some (.int .i64 kt.p) ∧ W.cell? ⟨w.heap.size + 1, 1, none⟩ = some (.int .i64 kt.m) ∧ W.cell? ⟨w.heap.size + 1, 2, none⟩ = some (.int .i64 kt.e) ∧ W.cell? ⟨w.heap.size + 1 + 1, 4, none⟩ = some (.pointer (some ⟨w.heap.size + 1 + 1 + 1, 0, none⟩)))
    (first | exact ⟨d0, d1, d2, d3⟩ | exact ⟨e0, e1, e2, e3⟩ | exact ⟨g0, g1, g2, g3⟩ | go_keep)
    ((first | (refine step_append rfl (.tmp 38) (.tmp 43) 100 rfl base 99 i0 (.pointer none) 1 8 Tryd.underlying100 HI.out.1 HI.out.2.1 HI.out.2.2.1 HI.out.2.2.2 rfl (by omega) vb ys.length ys rfl HROW4.out ⟨w3.heap.size, 0, none⟩ 1 1 [ptr (w.heap.size + 1 + 1 + 1)] rfl rfl (World.news_of_block (cs := #[ptr (w.heap.size + 1 + 1 + 1)]) (t := 99) (fr := (0, 0)) HN4.out) (by simp [ptr, Value.oneCell']) (by have := HLB.out; simp only [maxLen]; omega) (by have := HLB.out; omega) HB4.out ?_; intro v5 w5 hown5 hg5 hat5; have HOWN5 := Lib.hid hown5; have HG5 := Lib.hid hg5; have HAT5 := Lib.hid hat5; clear hown5 hg5 hat5; have e0 := HG5.out.cell d0 (Ne.symm HE1.out); have e1 := HG5.out.cell d1 (Ne.symm HE1.out); have e2 := HG5.out.cell d2 (Ne.symm HE1.out); have e3 := HG5.out.cell d3 (Ne.symm HE2.out); obtain ⟨w6, hrun6, hm6, hg6, hs6⟩ := MapFn.store (t := 77) key89 (HM4.out.kept HG5.out (Ne.symm HNB.out)) (HST4.out.kept HG5.out (Ne.symm HNB.out)) v5; replace hrun6 : Sem.run Tryd.prog (Instr.entryStore 77 (Value.map (some b)) (.int .i64 st4) v5) w5 = Result.ok () w6 := hrun6; have HM6 := Lib.hid hm6; have HG6 := Lib.hid hg6; have HS6 := Lib.hid hs6; clear hm6 hg6 hs6; have nb1 : some (w.heap.size + 1) ≠ some b := (by have := hbn.out; intro e; injection e with e; omega); have nb2 : some (w.heap.size + 1 + 1) ≠ some b := (by have := hbn.out; intro e; injection e with e; omega); have g0 := HG6.out.cell e0 nb1; have g1 := HG6.out.cell e1 nb1; have g2 := HG6.out.cell e2 nb1; have g3 := HG6.out.cell e3 nb2; clear nb1 nb2)))
  clear c0 c1 c2 c3 d0 d1 d2 d3 e0 e1 e2 e3 g0 g1 g2 g3 hrun4 hrun6
  go_wp2
  rw [rounds_succ]
  go_wp2
  go_end0
  have hr : rowOf (upd f fr v2) kt = vb := HVB.out
  have hR0 := HP.out.1.fr (w' := (w3.alloc (Obj.cells #[Value.pointer (some { block := w.heap.size + 1 + 1 + 1, off := 0 })] 99)).drew) (((Fr.refl (fun _ => False) w3).alloc _).drew) (fun _ _ _ h => h)
  have hown5 : w5.ownsRow base 99 1 v5 (ys ++ [ptr (w.heap.size + 1 + 1 + 1)]).length (ys ++ [ptr (w.heap.size + 1 + 1 + 1)]) := by simpa using HOWN5.out
  rw [← HYS.out] at hown5
  have hq := RowsMem.push (w1 := w4) (w2 := w5) (w3 := w6) hR0 kt (ptr (w.heap.size + 1 + 1 + 1)) v5 HG4.out hown5 (by rw [hr]; exact HG5.out) (by rw [hr]; rcases HAT5.out with h | h; exact .inl h; exact .inr ⟨_, h, Nat.le_refl _⟩) (by rw [hr]; exact HM6.out) HG6.out
  rw [hr] at hq
  have hfr6 : ∀ k o, k ≠ b → vb.ownBlock ≠ some k → w3.heap[k]? = some o → w6.heap[k]? = some o := by
    intro k o hb hv ho
    refine hq.2.heap (o := o) ?_ ?_
    · exact heap_old _ _ ho
    · rintro (e | e)
      · exact hb e
      · exact hv e.symm
  have hlo := HN.out.rm.lo
  have hhi := HN.out.rm.hi
  have hsz := HN.out.rm.size
  have hs3 : w.heap.size + 5 ≤ w3.heap.size := by have := HP.out.2.size; have := HSZ.out; omega
  have hs6 : w3.heap.size + 1 ≤ w6.heap.size := by have h := hq.2.size; have : (w3.alloc (Obj.cells #[Value.pointer (some { block := w.heap.size + 1 + 1 + 1, off := 0 })] 99)).drew.heap.size = w3.heap.size + 1 := by simp
                                                   omega
  have hvlt : ∀ k, vb.ownBlock = some k → base ≤ k := fun k hk => own_base HRB.out.1 k hk
  have hvl1 : ∀ k, v.ownBlock = some k → base ≤ k := fun k hk => own_base HROW.out k hk
  have hall : Fr (fun i => base ≤ i) w w6 := by
    refine ((HF.out.mono (fun _ _ h => h.elim)).then HP.out.2 ?_).then (Fr.then (((Fr.refl (fun i => base ≤ i) w3).alloc (Obj.cells #[Value.pointer (some { block := w.heap.size + 1 + 1 + 1, off := 0 })] 99)).drew) hq.2 ?_) ?_
    · rintro i _ (rfl | e)
      · exact .inl hlo
      · exact .inl (hvl1 i e.symm)
    · rintro i _ (rfl | e)
      · exact .inl hlo
      · exact .inl (hvlt i e.symm)
    · exact fun i _ h => .inl h
  have hkeep : ∀ (k : Nat) (cs : Array Value) (t : TypeId) (fz : Nat × Nat), w.heap[k]? = some (Obj.cells cs t fz) → t ≠ 99 → w6.heap[k]? = some (Obj.cells cs t fz) := by
    intro k cs t fz ho ht
    have ho4 := HF.out.heap ho (fun h => h)
    have hm := HN.out.rm.map
    have hgb : k ≠ b := by
      intro e
      obtain ⟨es, c, h1, _⟩ := hm
      rw [← e, ho] at h1
      cases h1
    have ho3 : w3.heap[k]? = some _ := HP.out.2.heap ho4 (by
      rintro (e | e)
      · exact hgb e
      · exact own_ne_cells HROW.out ho4 ht e.symm)
    exact hfr6 k _ hgb (own_ne_cells HRB.out.1 ho3 ht) ho3
  refine ⟨rfl, upd (upd f fr v2) kt v5, [w.heap.size + 1 + 1, w.heap.size + 1 + 1 + 1], ?_, hall.below (by omega) (fun k hk h => by omega), hkeep⟩
  refine NetMem.grow HN.out fr kt room (w.heap.size + 1 + 1) (w.heap.size + 1 + 1 + 1) (by omega) (by omega) (by omega) (by omega) (by omega) hq.1 ?_ (hfr6 _ _ (by omega) HE2.out H2.out) (hfr6 _ _ (by omega) HE3.out H3.out) (by omega) (by omega)
  intro g hg
  obtain ⟨i, hi⟩ := List.getElem?_of_mem hg
  have hil : i < A.length := by rw [← HN.out.len]; exact (List.getElem?_eq_some_iff.1 hi).1
  have hfl : flip i < bs.length := by rw [HN.out.len]; exact flip_lt hil HN.out.even
  have ho := HN.out.arcs i A[i] g bs[flip i] (by simp [hil]) hi (by simp [hfl])
  rw [ho]
  exact hkeep g _ _ _ ho (by decide)
end Go.Proofs.YtnhcpflenajeaaaDoor
