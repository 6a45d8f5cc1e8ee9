/-
  DERIVED: THE SHELF's CONTRACTS AT THIS DUMP, IN PLAIN WORDS (tools/lay-plain.mjs out of 'YtnhcpflenajeaaaDoorShelf.lean', which tools/lay-shelf.mjs wrote): THE SAME DECLARATIONS UNDER THE SAME NAMES: 'import', 'namespace', 'open', 'def', 'theorem' AND NOTHING ELSE: no command of the shelf's: FOR A HAND-IN. Each laying: the table of numbers ('.._ren') and one theorem, a field a fact of the dump's own or the kernel's comparison; each contract: ONE APPLICATION.
-/
import Derived.Test.YtnhcpflenajeaaaDoorProg
import Derived.Shelf.SlSortCmp.NoneTotal
import Derived.Ground.SlsfProg
import Derived.Test.YtnhcpflenajeaaaDoorJNewNet
namespace Go.Proofs
open Go.Shelf
def Tryd.sortStands_ren : Go.Shelf.Ren := ⟨fun | 6 => 44 | 15 => 57 | 14 => 56 | 28 => 76 | 29 => 77 | 20 => 68 | 21 => 69 | 22 => 70 | 23 => 71 | 24 => 72 | 25 => 73 | 26 => 74 | 27 => 75 | 46 => 81 | 47 => 82 | 48 => 83 | 49 => 84 | 50 => 85 | 57 => 86 | n => n, fun | 22 => 36 | 24 => 46 | 25 => 93 | 3 => 3 | 39 => 112 | 0 => 0 | 53 => 44 | 55 => 129 | 4 => 4 | 46 => 121 | 45 => 120 | 50 => 125 | 5 => 5 | 9 => 9 | 66 => 133 | 70 => 137 | 76 => 139 | 77 => 140 | n => n, fun | n => n⟩
theorem Tryd.sortStands : Go.Proofs.SlLaysF0.n6 Tryd.prog Tryd.sortStands_ren := {
  mixed := by kernel_rfl
  f6 := ⟨Tryd.f44.name, by decide, Tryd.func44.trans (congrArg some (by kernel_rfl))⟩
  f14 := ⟨Tryd.f56.name, by decide, Tryd.func56.trans (congrArg some (by kernel_rfl))⟩
  f15 := Tryd.func57.trans (congrArg some (by kernel_rfl))
  f20 := ⟨Tryd.f68.name, by decide, Tryd.func68.trans (congrArg some (by kernel_rfl))⟩
  f21 := ⟨Tryd.f69.name, by decide, Tryd.func69.trans (congrArg some (by kernel_rfl))⟩
  f22 := ⟨Tryd.f70.name, by decide, Tryd.func70.trans (congrArg some (by kernel_rfl))⟩
  f23 := ⟨Tryd.f71.name, by decide, Tryd.func71.trans (congrArg some (by kernel_rfl))⟩
  f24 := ⟨Tryd.f72.name, by decide, Tryd.func72.trans (congrArg some (by kernel_rfl))⟩
  f25 := ⟨Tryd.f73.name, by decide, Tryd.func73.trans (congrArg some (by kernel_rfl))⟩
  f26 := ⟨Tryd.f74.name, by decide, Tryd.func74.trans (congrArg some (by kernel_rfl))⟩
  f27 := ⟨Tryd.f75.name, by decide, Tryd.func75.trans (congrArg some (by kernel_rfl))⟩
  f28 := Tryd.func76.trans (congrArg some (by kernel_rfl))
  f29 := Tryd.func77.trans (congrArg some (by kernel_rfl))
  f46 := ⟨Tryd.f81.name, by decide, Tryd.func81.trans (congrArg some (by kernel_rfl))⟩
  f47 := Tryd.func82.trans (congrArg some (by kernel_rfl))
  f48 := Tryd.func83.trans (congrArg some (by kernel_rfl))
  f49 := ⟨Tryd.f84.name, by decide, Tryd.func84.trans (congrArg some (by kernel_rfl))⟩
  f50 := ⟨Tryd.f85.name, by decide, Tryd.func85.trans (congrArg some (by kernel_rfl))⟩
  f57 := ⟨Tryd.f86.name, by decide, Tryd.func86.trans (congrArg some (by kernel_rfl))⟩
  t0 := Tryd.underlying0
  a0 := Tryd.isAgg0
  z0 := Tryd.sizeOf0
  v0 := Tryd.zeroValue0
  t3 := Tryd.underlying3
  a3 := Tryd.isAgg3
  z3 := Tryd.sizeOf3
  v3 := Tryd.zeroValue3
  t4 := Tryd.underlying4
  a4 := Tryd.isAgg4
  z4 := Tryd.sizeOf4
  v4 := Tryd.zeroValue4
  t5 := Tryd.underlying5
  a5 := Tryd.isAgg5
  z5 := Tryd.sizeOf5
  v5 := Tryd.zeroValue5
  t9 := Tryd.underlying9
  a9 := Tryd.isAgg9
  z9 := Tryd.sizeOf9
  v9 := Tryd.zeroValue9
  t22 := Tryd.underlying36
  a22 := Tryd.isAgg36
  z22 := Tryd.sizeOf36
  v22 := Tryd.zeroValue36
  t25 := Tryd.underlying93
  a25 := Tryd.isAgg93
  z25 := Tryd.sizeOf93
  v25 := Tryd.zeroValue93
  t39 := Tryd.underlying112
  a39 := Tryd.isAgg112
  z39 := Tryd.sizeOf112
  v39 := Tryd.zeroValue112
  t45 := Tryd.underlying120
  a45 := Tryd.isAgg120
  z45 := Tryd.sizeOf120
  v45 := Tryd.zeroValue120
  t46 := Tryd.underlying121
  a46 := Tryd.isAgg121
  z46 := Tryd.sizeOf121
  v46 := Tryd.zeroValue121
  t50 := Tryd.underlying125
  a50 := Tryd.isAgg125
  z50 := Tryd.sizeOf125
  v50 := Tryd.zeroValue125
  t53 := Tryd.underlying44
  a53 := Tryd.isAgg44
  z53 := Tryd.sizeOf44
  v53 := Tryd.zeroValue44
  t55 := Tryd.underlying129
  a55 := Tryd.isAgg129
  z55 := Tryd.sizeOf129
  v55 := Tryd.zeroValue129
  t66 := Tryd.underlying133
  a66 := Tryd.isAgg133
  z66 := Tryd.sizeOf133
  v66 := Tryd.zeroValue133
  t70 := Tryd.underlying137
  a70 := Tryd.isAgg137
  z70 := Tryd.sizeOf137
  v70 := Tryd.zeroValue137
  t76 := Tryd.underlying139
  a76 := Tryd.isAgg139
  z76 := Tryd.sizeOf139
  v76 := Tryd.zeroValue139
  t77 := Tryd.underlying140
  a77 := Tryd.isAgg140
  z77 := Tryd.sizeOf140
  v77 := Tryd.zeroValue140 }
end Go.Proofs

/- Wall's sort: slices.SortFunc at stands. -/
set_option linter.unusedVariables false
set_option linter.unusedSimpArgs false
namespace Go.Proofs.YtnhcpflenajeaaaDoor
open Go.RowKit Go.Shelf Go.Lib Go.Sort Go.Proofs.YtnhcpflenajeaaaDoorW.PrintWords Go.Proofs.YtnhcpflenajeaaaDoorW.PrintMore PCrowdMost Mem
instance : Inhabited Stand := ⟨⟨0, 0⟩⟩
def encS (s : Stand) : List Value := [.int .i64 s.p, .int .i64 s.m]
theorem cfS_neg (a b : Stand) : cfS a b < 0 ↔ (a.p < b.p ∨ (a.p = b.p ∧ a.m < b.m)) := by
  unfold cfS cmpI
  split <;> split <;> (try split) <;> (try split) <;> omega
theorem ltS (a b : Stand) : ltOf cfS a b = decide (a.p < b.p ∨ (a.p = b.p ∧ a.m < b.m)) := by
  unfold ltOf
  rw [decide_eq_decide]
  exact cfS_neg a b
theorem swoS : SWO (ltOf cfS) where
  irrefl x := by rw [ltS]; simp
  trans x y z h1 h2 := by rw [ltS] at *; simp at *; omega
  ntrans x y z h1 h2 := by rw [ltS] at *; simp at *; omega
theorem antS (x y : Stand) (h1 : ltOf cfS x y = false) (h2 : ltOf cfS y x = false) : x = y := by
  rw [ltS] at h1 h2
  simp at h1 h2
  cases x; cases y
  simp at h1 h2 ⊢
  omega
theorem cmpLays45 (blk off size : Nat) (w : World) : CmpLays Tryd.prog 45 #[] encS 2 cfS blk off size w := by
  intro m os dk _ x y
  refine (closure45 x y _).mono ?_
  rintro e w' ⟨rfl, v1, v2, t, rfl⟩
  refine ⟨rfl, 1, #[.cells #[.int .i64 x.p, .int .i64 x.m] 46] ++ #[.cells #[.int .i64 y.p, .int .i64 y.m] 46] ++ #[.cells #[v1, v2] t], ?_⟩
  rw [alloc_eq_grow, alloc_eq_grow, alloc_eq_grow, grow_grow, grow_grow]
  rfl
theorem sc_get : ∀ (ks : List Stand) (j : Nat), j < ks.length * 2 → (scells ks)[j]? = some ((encS (ks.toArray[j / 2]!))[j % 2]!)
  | [], j, h => by simp at h
  | k :: ks, 0, _ => by simp [scells, encS]
  | k :: ks, 1, _ => by simp [scells, encS]
  | k :: ks, j + 2, h => by
    have ih := sc_get ks j (by simp at h; omega)
    have e1 : scells (k :: ks) = .int .i64 k.p :: .int .i64 k.m :: scells ks := rfl
    rw [e1]
    simp only [List.getElem?_cons_succ, ih]
    rw [show (j + 2) / 2 = j / 2 + 1 by omega, show (j + 2) % 2 = j % 2 by omega]
    simp
theorem sc_len (ks : List Stand) : (scells ks).length = ks.length * 2 := by
  induction ks with
  | nil => rfl
  | cons k ks ih =>
    have e1 : scells (k :: ks) = .int .i64 k.p :: .int .i64 k.m :: scells ks := rfl
    rw [e1]
    simp [ih]
    omega
theorem flat_get (ks : List Stand) (j : Nat) (h : j < ks.length * 2) : (flatK encS 2 ks.toArray)[j]! = (encS (ks.toArray[j / 2]!))[j % 2]! := by
  have hs : j < (flatK encS 2 ks.toArray).size := by simp [flatK]; exact h
  rw [getElem!_pos (flatK encS 2 ks.toArray) j hs]
  simp [flatK]
theorem sortOk : SortOk := by
  intro W base v ks hrow hb hlen
  rcases hrow.2 with ⟨rfl, h0⟩ | ⟨g, cap, cur, rfl, hg, hh, hc1, hc2, hc3, hc4⟩
  · have hks : ks = [] := List.length_eq_zero_iff.1 h0
    subst hks
    refine (AnyF.slices_SortFunc_none { Tryd.sortStands with } none 0 (.func (.func 45) #[] #[]) W).mono ?_
    rintro e w' ⟨rfl, rfl⟩
    exact ⟨rfl, [], List.Perm.refl _, by simp, hrow, Fr.refl _ _⟩
  · have hgl := (Array.getElem?_eq_some_iff.1 hh).1
    have hH : HoldsK encS 2 W g 0 ks.toArray := by
      intro j hj
      have hj' : j < ks.length * 2 := by simpa [flatK] using hj
      rw [flat_get ks j hj']
      have h1 := sc_get ks j hj'
      rw [← hc4, List.getElem?_take, if_pos hj'] at h1
      have h2 : cur[j]? = some ((encS (ks.toArray[j / 2]!))[j % 2]!) := by simpa using h1
      refine ⟨cell_of_heap hh (0 + j) _ (by simpa using h2), by simp [World.frozen?, hh]⟩
    have hcon := AnyQ.slices_SortFunc_total Tryd.sortStands 2 Tryd.isAgg46 Tryd.sizeOf46 encS (fun _ => rfl) (fun x v hv => by simp [encS] at hv; rcases hv with rfl | rfl <;> rfl) cfS swoS 45 #[] g 0 cap ks.toArray W (enters_of Tryd.func45 (by kernel_rfl) rfl) (cmpLays45 g 0 ks.toArray.size W) hH hgl (by simp; omega) antS
    change Calls Tryd.prog 44 _ _ _ at hcon
    simp only [List.size_toArray] at hcon
    refine hcon.mono ?_
    rintro e w' ⟨rfl, n, os, rfl⟩
    obtain ⟨ks', hks'⟩ : ∃ ks', ks' = ks.mergeSort (fun x y => !(ltOf cfS) y x) := ⟨_, rfl⟩
    have hperm : ks'.Perm ks := by rw [hks']; exact List.mergeSort_perm _ _
    have hl' : ks'.length = ks.length := hperm.length_eq
    rw [← hks']
    have hH' := holdsK_sortWorldK_c encS 2 W g 0 ks.toArray ks'.toArray n os hH hgl (by simp [hl'])
    refine ⟨rfl, ks', hperm, ?_, ?_, ?_⟩
    · rw [hks']
      have h := List.pairwise_mergeSort (le := fun x y => !(ltOf cfS) y x) (fun a b c h1 h2 => by rw [ltS] at *; simp at *; omega) (fun a b => by rw [ltS, ltS]; simp; omega) ks
      refine h.imp ?_
      intro a b h
      have : ¬ cfS b a < 0 := by simpa [ltOf] using h
      omega
    · have hE := (Array.getElem?_eq_some_iff.1 hh).2
      have hh' : (sortWorldK encS 2 W g 0 n ks'.toArray os).heap[g]? = some (.cells (putCells id 0 (flatK encS 2 ks'.toArray) cur) 46 (0, 0)) := by
        show ((W.heap.modify g _) ++ os)[g]? = _
        rw [Array.getElem?_append_left (by rw [Array.size_modify]; exact hgl), Array.getElem?_eq_getElem (by rw [Array.size_modify]; exact hgl), Array.getElem_modify_self, hE]
        rfl
      rw [← hl']
      refine ⟨sc_len _, .inr ⟨g, cap, _, rfl, hg, hh', by omega, hc2, by simp [putCells]; exact hc3, ?_⟩⟩
      apply List.ext_getElem?
      intro j
      rw [List.getElem?_take]
      by_cases hj : j < ks'.length * 2
      · rw [if_pos hj, sc_get ks' j hj]
        have h1 := (hH' j (by simpa [flatK] using hj)).1
        rw [flat_get ks' j hj] at h1
        simp only [World.cell?, hh', Nat.zero_add, id] at h1
        simpa using h1
      · rw [if_neg hj, List.getElem?_eq_none (by rw [sc_len]; omega)]
    · refine ⟨rfl, rfl, rfl, size_sortWorldK_c encS 2 W g 0 n ks'.toArray os, fun k hk hne => ?_⟩
      show ((W.heap.modify g _) ++ os)[k]? = _
      rw [Array.getElem?_append_left (by rw [Array.size_modify]; exact hk), Array.getElem?_modify]
      have : g ≠ k := fun e => hne (by rw [← e]; rfl)
      simp [this]
end Go.Proofs.YtnhcpflenajeaaaDoor
