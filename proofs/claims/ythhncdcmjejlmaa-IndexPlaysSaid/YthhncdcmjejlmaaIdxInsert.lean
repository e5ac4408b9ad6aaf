/- A version put in at a place (slices.Insert): turned out of the guide's own proof at strings to elements of three cells. -/
import Derived.Test.YthhncdcmjejlmaaProg
import Derived.Test.YthhncdcmjejlmaaIdxPlain
import Derived.Test.YthhncdcmjejlmaaSeqCopy
import Derived.WalkKit
import Derived.Laws.Externs
import Derived.Lib.AppendZeros
import Derived.Laws.CopyOwn
namespace Go.Proofs.Ythhncdcmjejlmaa
open Go.RowKit Ks
set_option linter.unusedVariables false

theorem infoVer : (Try.prog.info? 27).map (fun i => (i.zero, i.size, i.bytes)) = some (some (.agg #[.int .i64 0, .int .i64 0, .int .i64 0]), 3, 24) := by kernel_rfl
theorem verT : ElemT Try.prog 22 27 verE.k 24 := elemT_of Try.underlying22 infoVer rfl
theorem sizeVer : (Try.prog.info? 27).map (·.size) = some 3 := by
  obtain ⟨i, h1, h2, h3, h4⟩ := info_parts infoVer
  rw [h1]; simp [h3]

theorem overlaps_no (w : World) (a b : Addr) (la ca lb cb : Nat) (hne : a.block ≠ b.block) (tA tB : TypeId) (kA kB : Nat)
    (hsa : w.shape? a.block = some (tA, kA)) (hsb : w.shape? b.block = some (tB, kB)) (hkB : kB ≠ 0) (hfa : w.frozen? a = false) (hfe : w.frozen? { block := a.block, off := kA } = false) :
    (callFunc 38 #[.slice (some a) la ca, .slice (some b) lb cb]).run Try.prog w = .ok (.value (.bool false)) w := by
  obtain ⟨i, h1, h2, h3, h4⟩ := info_parts infoVer
  rw [run_callFunc_extern Try.func38 (by kernel_rfl) (by kernel_rfl) (by kernel_rfl) (e := Extern.SlicesOverlaps.overlaps #[22, 22] #[4]) (by kernel_rfl),
    Lib.run_overlaps_apart w 22 4 27 Try.underlying22 3 (fun w => by simp [Go.sizeOf, typeInfo, h1, h3]) a b la ca lb cb hne tA tB kA kB hsa hsb hkB hfa hfe]
  rfl

theorem ver_len (l : List Ver) : (verE.cs l).length = l.length * 3 := verE.cs_length l

set_option maxHeartbeats 2000000 in
/-- at the end -/
theorem insert_end (v : Value) (L : List Ver) (x : Ver) (vb : Nat) (w : World) (hown : Row verE w 0 27 v L) (hlen : L.length ≤ 1000000) (hx : w.heap[vb]? = some (.cells (verC x).toArray 27 (0, 0))) :
    Calls Try.prog 29 #[v, .int .i64 L.length, .slice (some ⟨vb, 0, none⟩) 1 1] w fun e w' => ∃ v', e = .returned v' ∧ Grew verE w w' 0 27 v v' (L ++ [x]) := by
  refine calls_by fun R HR => ?_
  have HO := Lib.hid hown
  have HX := Lib.hid hx
  obtain ⟨a, cap, hv, hcap, hnone⟩ := hown.shape
  subst hv
  have hcapI : (L.length : Int) ≤ (cap : Int) := by omega
  have hcap63 := hown.capmax
  clear hown hx hnone
  by_cases hc : cap = L.length
  all_goals try subst hc
  all_goals
    go_enter Try.func29, Try.ntmps29
    go_wp2_with (at_builtin; refine wpList_append_row _ rfl _ _ 22 rfl verT 0 _ _ L [x] rfl rfl HO.out (Rd.single (E := verE) x HX.out rfl) (Nat.zero_le _) (by simp; omega) (by decide) ?_)
    intro v' w2 hG
    have HG := Lib.hid hG
    clear hG
    go_wp2
    exact HR.out _ _ ⟨v', rfl, HG.out⟩

set_option maxHeartbeats 4000000 in
set_option maxRecDepth 100000 in
/-- within, where there is room -/
theorem insert_shift (g cap i : Nat) (L : List Ver) (x : Ver) (vb : Nat) (w : World) (hown : Row verE w 0 27 (.slice (some ⟨g, 0, none⟩) L.length cap) L) (hi : i < L.length) (hroom : L.length + 1 ≤ cap) (hx : w.heap[vb]? = some (.cells (verC x).toArray 27 (0, 0))) (hne : vb ≠ g) :
    Calls Try.prog 29 #[.slice (some ⟨g, 0, none⟩) L.length cap, .int .i64 i, .slice (some ⟨vb, 0, none⟩) 1 1] w fun e w' => ∃ v', e = .returned v' ∧ Grew verE w w' 0 27 (.slice (some ⟨g, 0, none⟩) L.length cap) v' (L.take i ++ x :: L.drop i) := by
  refine calls_by fun R HR => ?_
  have hc63 := hown.capmax
  obtain ⟨cur, -, hg, hn, hmax, hsz, htake⟩ := hown.cur
  have hk : verE.k = 3 := rfl
  rw [hk] at hsz htake
  have hcl : cur.toList.length = cap * 3 := by simp [hsz]
  have hP : cur.toList.take (i * 3) = verE.cs (L.take i) := by
    have h := verE.cs_take L i
    rw [hk] at h
    rw [← h, ← htake, List.take_take]
    congr 1
    omega
  have hPl : (verE.cs (L.take i)).length = i * 3 := by rw [ver_len, List.length_take]; omega
  have hXl : (verC x).length = 3 := rfl
  have hDl : (verE.cs (L.drop i)).length = (L.length - i) * 3 := by rw [ver_len, List.length_drop]
  have hins := ins_shift cur.toList (verE.cs (L.take i)) (verC x) (verE.cs (L.drop i)) (by rw [hPl]; exact hP) (by rw [hPl, hXl, hDl, hcl]; omega)
  rw [hPl, hXl, hDl] at hins
  obtain ⟨A1, hA1⟩ : ∃ A1, over cur.toList (i * 3 + 3) (verE.cs (L.drop i)) = A1 := ⟨_, rfl⟩
  obtain ⟨A2, hA2⟩ : ∃ A2, over A1 (i * 3) (verC x) = A2 := ⟨_, rfl⟩
  rw [hA1, hA2] at hins
  have hA1l : A1.length = cap * 3 := by rw [← hA1, over_length _ _ _ (by rw [hDl, hcl]; omega), hcl]
  have hcells : ∀ j u, (verE.cs L)[j]? = some u → w.cell? ⟨g, j, none⟩ = some u := fun j u hj => by
    have := hown.rd.cells.2 j u hj
    rwa [Nat.zero_add] at this
  have hD : Below w.heap.size w w.drew := (Below.refl _ _).drew
  have hgd : w.drew.heap[g]? = some (.cells cur 27 (0, 0)) := hg
  have hc1 : ∀ ty dc sc, (Builtin.copy_ #[22, 22] ty #[.slice (some ⟨g, (i + 1) * 3, none⟩) (L.length - i) dc, .slice (some ⟨g, i * 3, none⟩) (L.length + 1 - i) sc]).run Try.prog w.drew = .ok (goInt (L.length - i : Nat)) (w.drew.setRow g A1.toArray) := fun ty dc sc => by
    have h := run_copy_k (P := Try.prog) w.drew 22 22 ty 27 3 g ((i + 1) * 3) (L.length - i) dc ⟨g, i * 3, none⟩ (L.length + 1 - i) sc cur 27 (verE.cs (L.drop i)) (L.length - i) Try.underlying22 sizeVer (by simp only [Nat.min_def]; split <;> omega) hDl hgd
      (fun j u hj => by
        rw [Addr.add_lit]
        refine hcells (i * 3 + j) u ?_
        have e : verE.cs L = verE.cs (L.take i) ++ verE.cs (L.drop i) := by rw [← verE.cs_append, List.take_append_drop]
        rw [e, List.getElem?_append_right (by omega), hPl]
        rw [← hj]; congr 1; omega)
      (by rw [hDl, hsz]; omega) (verE.cs_one _)
    rw [h, ← hA1, over, hDl]
    simp only [Nat.add_mul, Nat.one_mul]
  have hgW : (w.drew.setRow g A1.toArray).heap[g]? = some (.cells A1.toArray 27 (0, 0)) := setRow_heap w.drew g cur _ 27 (0, 0) hgd
  have hxW : (w.drew.setRow g A1.toArray).heap[vb]? = some (.cells (verC x).toArray 27 (0, 0)) := (setRow_other w.drew g vb _ hne).trans hx
  obtain ⟨W1, hW1⟩ : ∃ W1, w.drew.setRow g A1.toArray = W1 := ⟨_, rfl⟩
  rw [hW1] at hgW hxW hc1
  have hB1 : w.grownBy W1 (some g) := by
    rw [← hW1]
    exact ⟨rfl, rfl, rfl, by simp [World.setRow], fun k _ hk => setRow_other w.drew g k _ (fun e => hk (by rw [e]))⟩
  have hc2 : ∀ ty dc, (Builtin.copy_ #[22, 22] ty #[.slice (some ⟨g, i * 3, none⟩) (L.length + 1 - i) dc, .slice (some ⟨vb, 0, none⟩) 1 1]).run Try.prog W1 = .ok (goInt (1 : Nat)) (W1.setRow g A2.toArray) := fun ty dc => by
    have h := run_copy_k (P := Try.prog) W1 22 22 ty 27 3 g (i * 3) (L.length + 1 - i) dc ⟨vb, 0, none⟩ 1 1 A1.toArray 27 (verC x) 1 Try.underlying22 sizeVer (by simp only [Nat.min_def]; split <;> omega) hXl hgW
      (fun j u hj => by
        rw [Addr.add_lit, Nat.zero_add, cell_of_row W1 vb j _ _ _ hxW]
        simpa using hj)
      (by rw [hXl]; simp; omega) (verE.one x)
    rw [h, ← hA2, over, hXl]
  have hsa := shape_cells hx
  have hsb := shape_cells hg
  have hfa : w.frozen? ⟨vb, 0, none⟩ = false := frozen_of_row w vb 0 _ _ hx
  have hfe : w.frozen? ⟨vb, (verC x).toArray.size, none⟩ = false := frozen_of_row w vb _ _ _ hx
  have hov : ∀ o lb cb, (callFunc 38 #[.slice (some ⟨vb, 0, none⟩) 1 1, .slice (some ⟨g, o, none⟩) lb cb]).run Try.prog w = .ok (.value (.bool false)) w := fun o lb cb =>
    overlaps_no w ⟨vb, 0, none⟩ ⟨g, o, none⟩ 1 1 lb cb hne _ _ _ _ hsa hsb (by omega) hfa hfe
  have hGW := Lib.hid (show Grew verE w (W1.setRow g A2.toArray) 0 27 (.slice (some ⟨g, 0, none⟩) L.length cap) (.slice (some ⟨g, 0, none⟩) (L.length + 1) cap) (L.take i ++ x :: L.drop i) by
    have hll : (L.take i ++ x :: L.drop i).length = L.length + 1 := by simp; omega
    refine ⟨⟨by rw [verE.cs_length], Or.inr ⟨g, cap, A2.toArray, by rw [hll], Nat.zero_le _, setRow_heap W1 g A1.toArray _ 27 (0, 0) hgW, by rw [hll]; exact hroom, hmax, ?_, ?_⟩⟩, ?_, Or.inl rfl, fun _ => by simp⟩
    · show A2.toArray.size = cap * 3
      have := hins.1
      simp only [List.size_toArray]
      rw [this, hcl]
    · rw [hll, hk]
      have e : (L.length + 1) * 3 = i * 3 + 3 + (L.length - i) * 3 := by omega
      rw [e]
      show List.take _ A2 = _
      rw [hins.2, verE.cs_append, verE.cs_cons, List.append_assoc]; rfl
    · exact ⟨hB1.os, hB1.tape, hB1.output, by simp [World.setRow]; exact hB1.size, fun k hk1 hk2 => (setRow_other W1 g k _ (fun e => hk2 (by rw [e]; rfl))).trans (hB1.block k hk1 hk2)⟩)
  have hw1 : IntKind.i64.wrap ((i : Int) + 1) = (i : Int) + 1 := by rw [IntKind.wrap_i64]; omega
  have hb1 : (0 : Int) ≤ (i : Int) + 1 := by omega
  have hin : i ≤ L.length := by omega
  have htn : ((i : Int) + 1).toNat = i + 1 := by omega
  have hb2 : ¬ (cap = i + 1) := by omega
  have hb4 : ¬ (cap = i) := by omega
  have hz2 : ((i : Int) == (L.length : Int)) = false := by simp; omega
  have hroomI : ¬ ((cap : Int) < (L.length : Int) + 1) := by omega
  have hb6 : (i : Int) ≤ (L.length : Int) + 1 := by omega
  have hb5 : (i : Int) + 1 ≤ (L.length : Int) + 1 := by omega
  have HC1 := Lib.hid hc1
  have HC2 := Lib.hid hc2
  clear hown hc1 hc2 hsa hsb hfa hfe hcells hP hPl hXl hDl hins hA1 hA2 hA1l hgd hgW hxW hB1 hD hsz htake hg hx hW1 hcl
  go_enter Try.func29, Try.ntmps29
  go_wp2_with (simp only [hov])
  go_region_law (refine step_copy_of rfl (.tmp 73) (.tmp 76) 22 22 rfl (.slice (some ⟨g, (i + 1) * 3, none⟩) (L.length - i) (cap - (i + 1))) (.slice (some ⟨g, i * 3, none⟩) (L.length + 1 - i) (cap - i)) (by simp [Act.eval, Act.put]) (by simp [Act.eval, Act.put]) (HC1.out 3 (cap - (i + 1)) (cap - i)) ?_)
  have hc2e := HC2.out 3 (cap - i)
  go_wp2
  exact HR.out _ _ ⟨_, rfl, hGW.out⟩

set_option maxHeartbeats 4000000 in
set_option maxRecDepth 100000 in
/-- within, where there is none -/
theorem insert_grow (g cap i : Nat) (L : List Ver) (x : Ver) (vb : Nat) (w : World) (hown : Row verE w 0 27 (.slice (some ⟨g, 0, none⟩) L.length cap) L) (hi : i < L.length) (hroom : cap < L.length + 1) (hlen : L.length ≤ 1000000) (hx : w.heap[vb]? = some (.cells (verC x).toArray 27 (0, 0))) :
    Calls Try.prog 29 #[.slice (some ⟨g, 0, none⟩) L.length cap, .int .i64 i, .slice (some ⟨vb, 0, none⟩) 1 1] w fun e w' => ∃ v', e = .returned v' ∧ Grew verE w w' 0 27 (.slice (some ⟨g, 0, none⟩) L.length cap) v' (L.take i ++ x :: L.drop i) := by
  refine calls_by fun R HR => ?_
  obtain ⟨i0, hi0, hz0, hzs, hzb⟩ := info_parts infoVer
  obtain ⟨cur, -, hg, hn, hmax, hsz, htake⟩ := hown.cur
  obtain rfl : cap = L.length := by omega
  have hk : verE.k = 3 := rfl
  rw [hk] at hsz htake
  have hcells : ∀ j u, (verE.cs L)[j]? = some u → w.cell? ⟨g, j, none⟩ = some u := fun j u hj => by
    have := hown.rd.cells.2 j u hj
    rwa [Nat.zero_add] at this
  have hPl : (verE.cs (L.take i)).length = i * 3 := by rw [ver_len, List.length_take]; omega
  have hXl : (verC x).length = 3 := rfl
  have hDl : (verE.cs (L.drop i)).length = (L.length - i) * 3 := by rw [ver_len, List.length_drop]
  have hsplit : verE.cs L = verE.cs (L.take i) ++ verE.cs (L.drop i) := by rw [← verE.cs_append, List.take_append_drop]
  have hold : (Builtin.firstCells i0.size i (.slice (some ⟨g, 0, none⟩) i L.length)).run Try.prog w.drew = .ok (verE.cs (L.take i)).toArray w.drew := by
    rw [hzs]
    exact run_firstCells_some w.drew 3 i ⟨g, 0, none⟩ i L.length (verE.cs (L.take i)) hPl (fun j u hj => by
      rw [Addr.add_lit, Nat.zero_add]
      refine hcells j u ?_
      rw [hsplit, List.getElem?_append_left (List.getElem?_eq_some_iff.1 hj).1]
      exact hj)
  have hik : i + (L.length + 1 - i) = L.length + 1 := by omega
  have hkk : (L.length : Int) + 1 - (i : Int) = ((L.length + 1 - i : Nat) : Int) := by omega
  obtain ⟨G, hG⟩ : ∃ G, grownCap w (L.length + 1) L.length 27 = G := ⟨_, rfl⟩
  have hGn : L.length + 1 ≤ G := by rw [← hG]; exact grownCap_ge w _ _ _
  have hG63 : G ≤ maxLen := by rw [← hG]; exact grownCap_le_maxLen w (L.length + 1) L.length 27 (by unfold maxLen; omega)
  obtain ⟨ROW, hROW⟩ : ∃ ROW : Array Value, (verE.cs (L.take i)).toArray ++ Builtin.zeroCells (Value.agg #[.int .i64 0, .int .i64 0, .int .i64 0]).cells (L.length + 1 - i) ++ Builtin.zeroCells (Value.agg #[.int .i64 0, .int .i64 0, .int .i64 0]).cells (G - (L.length + 1)) = ROW := ⟨_, rfl⟩
  obtain ⟨W1, hW1⟩ : ∃ W1, w.drew.alloc (.cells ROW 27) = W1 := ⟨_, rfl⟩
  have hrz : ∀ ty, (Builtin.append_ #[22, 3] ty #[.slice (some ⟨g, 0, none⟩) i L.length, .int .i64 ((L.length : Int) + 1 - (i : Int))]).run Try.prog w = .ok (.slice (some ⟨w.heap.size, 0, none⟩) (L.length + 1) G) W1 := fun ty => by
    have h := Lib.run_append_grow_zeros (P := Try.prog) w 22 3 ty 27 i0 _ .i64 .i64 Try.underlying22 Try.underlying3 hi0 hz0 (some ⟨g, 0, none⟩) i L.length (verE.cs (L.take i)) hold (L.length + 1 - i) (by omega) (by rw [hzs]; decide) (by omega) (by omega) (by rw [hzb]; omega) (by rw [hzb, hik]; exact growslice_fits (by omega) (by omega))
    rw [hik, hG] at h
    rw [hkk, h, ← hW1, ← hROW]
  have hRs : ROW.size = G * 3 := by
    rw [← hROW, Array.size_append, Array.size_append, List.size_toArray, hPl]
    simp [Builtin.zeroCells, Value.cells]
    omega
  have hRcl : ROW.toList.length = G * 3 := by simp [hRs]
  have hRt : ROW.toList.take (i * 3) = verE.cs (L.take i) := by
    rw [← hROW]
    simp only [Array.toList_append, List.append_assoc]
    rw [List.take_append_of_le_length (Nat.le_of_eq hPl.symm), List.take_of_length_le (Nat.le_of_eq hPl)]
  have hins := ins_grow ROW.toList (verE.cs (L.take i)) (verC x) (verE.cs (L.drop i)) (by rw [hPl]; exact hRt) (by rw [hPl, hXl, hDl, hRcl]; omega)
  rw [hPl, hXl, hDl] at hins
  obtain ⟨A1, hA1⟩ : ∃ A1, over ROW.toList (i * 3) (verC x) = A1 := ⟨_, rfl⟩
  obtain ⟨A2, hA2⟩ : ∃ A2, over A1 (i * 3 + 3) (verE.cs (L.drop i)) = A2 := ⟨_, rfl⟩
  rw [hA1, hA2] at hins
  have hA1l : A1.length = G * 3 := by rw [← hA1, over_length _ _ _ (by rw [hXl, hRcl]; omega), hRcl]
  have hB1 : Below w.heap.size w W1 := by rw [← hW1]; exact ((Below.refl _ _).drew).alloc (by simp) _
  have hg1 : W1.heap[w.heap.size]? = some (.cells ROW 27 (0, 0)) := by rw [← hW1]; exact heap_alloc_new w.drew _
  have hx1 := (hB1.block _ (lt_of_block hx)).trans hx
  have hgo1 := (hB1.block _ (lt_of_block hg)).trans hg
  have hc1 : ∀ ty dc, (Builtin.copy_ #[22, 22] ty #[.slice (some ⟨w.heap.size, i * 3, none⟩) (L.length + 1 - i) dc, .slice (some ⟨vb, 0, none⟩) 1 1]).run Try.prog W1 = .ok (goInt (1 : Nat)) (W1.setRow w.heap.size A1.toArray) := fun ty dc => by
    have h := run_copy_k (P := Try.prog) W1 22 22 ty 27 3 w.heap.size (i * 3) (L.length + 1 - i) dc ⟨vb, 0, none⟩ 1 1 ROW 27 (verC x) 1 Try.underlying22 sizeVer (by simp only [Nat.min_def]; split <;> omega) hXl hg1
      (fun j u hj => by
        rw [Addr.add_lit, Nat.zero_add, cell_of_row W1 vb j _ _ _ hx1]
        simpa using hj)
      (by rw [hXl, hRs]; omega) (verE.one x)
    rw [h, ← hA1, over, hXl]
  obtain ⟨W2, hW2⟩ : ∃ W2, W1.setRow w.heap.size A1.toArray = W2 := ⟨_, rfl⟩
  rw [hW2] at hc1
  have hB2 : Below w.heap.size w W2 := by rw [← hW2]; exact below_setRow hB1 (Nat.le_refl _) _
  have hg2 : W2.heap[w.heap.size]? = some (.cells A1.toArray 27 (0, 0)) := by rw [← hW2]; exact setRow_heap W1 _ ROW _ 27 (0, 0) hg1
  have hgo2 := (hB2.block _ (lt_of_block hg)).trans hg
  have hg2d : W2.drew.heap[w.heap.size]? = some (.cells A1.toArray 27 (0, 0)) := hg2
  have hc2 : ∀ ty dc sc, (Builtin.copy_ #[22, 22] ty #[.slice (some ⟨w.heap.size, (i + 1) * 3, none⟩) (L.length - i) dc, .slice (some ⟨g, i * 3, none⟩) (L.length - i) sc]).run Try.prog W2.drew = .ok (goInt (L.length - i : Nat)) (W2.drew.setRow w.heap.size A2.toArray) := fun ty dc sc => by
    have h := run_copy_k (P := Try.prog) W2.drew 22 22 ty 27 3 w.heap.size ((i + 1) * 3) (L.length - i) dc ⟨g, i * 3, none⟩ (L.length - i) sc A1.toArray 27 (verE.cs (L.drop i)) (L.length - i) Try.underlying22 sizeVer (by simp) hDl hg2d
      (fun j u hj => by
        rw [Addr.add_lit]
        have hcell : W2.drew.cell? ⟨g, i * 3 + j, none⟩ = w.cell? ⟨g, i * 3 + j, none⟩ := by
          have := hB2.cell (p := ⟨g, i * 3 + j, none⟩) (lt_of_block hg)
          exact this
        rw [hcell]
        refine hcells (i * 3 + j) u ?_
        rw [hsplit, List.getElem?_append_right (by omega), hPl]
        rw [← hj]; congr 1; omega)
      (by rw [hDl]; simp; omega) (verE.cs_one _)
    rw [h, ← hA2, over, hDl]
    simp only [Nat.add_mul, Nat.one_mul]
  have hGW := Lib.hid (show Grew verE w (W2.drew.setRow w.heap.size A2.toArray) 0 27 (.slice (some ⟨g, 0, none⟩) L.length L.length) (.slice (some ⟨w.heap.size, 0, none⟩) (L.length + 1) G) (L.take i ++ x :: L.drop i) by
    have hll : (L.take i ++ x :: L.drop i).length = L.length + 1 := by simp; omega
    refine ⟨⟨by rw [verE.cs_length], Or.inr ⟨w.heap.size, G, A2.toArray, by rw [hll], Nat.zero_le _, setRow_heap W2.drew _ A1.toArray _ 27 (0, 0) hg2d, by rw [hll]; exact hGn, hG63, ?_, ?_⟩⟩, ?_, Or.inr fun b hb => by simp [Value.ownBlock] at hb; omega, fun _ => by simp⟩
    · show A2.toArray.size = G * 3
      have := hins.1
      simp only [List.size_toArray]
      rw [this, hRcl]
    · rw [hll, hk]
      have e : (L.length + 1) * 3 = i * 3 + 3 + (L.length - i) * 3 := by omega
      rw [e]
      show List.take _ A2 = _
      rw [hins.2, verE.cs_append, verE.cs_cons, List.append_assoc]; rfl
    · have hB3 : Below w.heap.size w (W2.drew.setRow w.heap.size A2.toArray) := below_setRow (hB2.trans (((Below.refl W2.heap.size W2).drew).mono hB2.size)) (Nat.le_refl _) _
      exact ⟨hB3.os, hB3.tape, hB3.output, hB3.size, fun k hk1 _ => hB3.block k hk1⟩)
  have hw1 : IntKind.i64.wrap ((i : Int) + 1) = (i : Int) + 1 := by rw [IntKind.wrap_i64]; omega
  have hb1 : (0 : Int) ≤ (i : Int) + 1 := by omega
  have hin : i ≤ L.length := by omega
  have htn : ((i : Int) + 1).toNat = i + 1 := by omega
  have hb2 : ¬ (G = i + 1) := by omega
  have hb4 : ¬ (G = i) := by omega
  have hb7 : ¬ (L.length = i) := by omega
  have hz2 : ((i : Int) == (L.length : Int)) = false := by simp; omega
  have hb6 : (i : Int) ≤ (L.length : Int) := by omega
  have hb8 : (i : Int) ≤ (L.length : Int) + 1 := by omega
  have hb5 : (i : Int) + 1 ≤ (L.length : Int) + 1 := by omega
  have hc1e := hc1 3 (G - i)
  have HC2 := Lib.hid (hc2 3 (G - (i + 1)) (L.length - i))
  have hrze := hrz 22
  clear hown hc1 hc2 hcells hPl hXl hDl hins hA1 hA2 hA1l hg2 hg2d hg1 hx1 hgo1 hgo2 hB1 hB2 hsz htake hg hx hW1 hW2 hrz hRs hRcl hRt hROW hG hold hkk hik hsplit hi0 hz0 hzs hzb hmax hG63 hk
  go_enter Try.func29, Try.ntmps29
  go_wp2_with (at_builtin; refine Lib.wpList_append_run _ rfl _ _ _ _ rfl _ _ rfl rfl _ _ hrze ?_)
  go_region_law (refine step_copy_of rfl (.tmp 50) (.tmp 53) 22 22 rfl (.slice (some ⟨w.heap.size, (i + 1) * 3, none⟩) (L.length - i) (G - (i + 1))) (.slice (some ⟨g, i * 3, none⟩) (L.length - i) (L.length - i)) (by simp [Act.eval, Act.put]) (by simp [Act.eval, Act.put]) HC2.out ?_)
  go_wp2
  exact HR.out _ _ ⟨_, rfl, hGW.out⟩

/-- wherever -/
theorem insert_any (v : Value) (L : List Ver) (i : Nat) (x : Ver) (vb : Nat) (w : World) (hown : Row verE w 0 27 v L) (hi : i ≤ L.length) (hlen : L.length ≤ 1000000) (hx : w.heap[vb]? = some (.cells (verC x).toArray 27 (0, 0))) (hne : v.ownBlock ≠ some vb) :
    Calls Try.prog 29 #[v, .int .i64 i, .slice (some ⟨vb, 0, none⟩) 1 1] w fun e w' => ∃ v', e = .returned v' ∧ Grew verE w w' 0 27 v v' (L.take i ++ x :: L.drop i) := by
  by_cases he : i = L.length
  · subst he
    rw [List.take_length, List.drop_length]
    exact insert_end v L x vb w hown hlen hx
  · obtain ⟨g, cap, rfl, _, _, _, _⟩ := hown.pos (by omega)
    by_cases hroom : L.length + 1 ≤ cap
    · exact insert_shift g cap i L x vb w hown (by omega) hroom hx (fun e => hne (by simp [Value.ownBlock, e]))
    · exact insert_grow g cap i L x vb w hown (by omega) (by omega) hlen hx

end Go.Proofs.Ythhncdcmjejlmaa
