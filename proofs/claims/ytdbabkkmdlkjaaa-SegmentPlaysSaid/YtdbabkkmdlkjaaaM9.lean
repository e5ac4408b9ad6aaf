/- Texts that the claim rests on, part 9: ProofTells, ProofProve2, ProofProve3, MerkleRHalf. -/
import Derived.Test.YtdbabkkmdlkjaaaM8
/- What a proof tells: of the program. -/
namespace Go.Proofs.Ytdbabkkmdlkjaaa
open Go.RowKit Ks
set_option linter.unusedVariables false
set_option maxRecDepth 100000 in
set_option maxHeartbeats 4000000 in
theorem tells_bad (root : ByteArray) (count lba : Int) (p : PrfD) (u v : Value) (w : World) (hu : Rd strE w u p.up) (hv : Rd strE w v p.left) (hun : p.up.length ≤ 100000000) (hvn : p.left.length ≤ 100000000) (h : badAsk count lba) :
    Calls Try.prog 22 #[.string root, .int .i64 count, .int .i64 lba, prfV p u v] w fun e w' => e = .returned (.tuple #[.string ⟨#[]⟩, .bool false, .int .i64 2]) ∧ Below w.heap.size w w' := by
  refine calls_by fun R HR => ?_
  obtain ⟨fd, at9, ⟨hn, hs⟩, ⟨an, as9⟩, up, left⟩ := p
  obtain ⟨ua, uc, rfl, -⟩ := hu.shape
  obtain ⟨la, lc, rfl, -⟩ := hv.shape
  dsimp only [prfV, prfC]
  have HU := Lib.hid hu
  have HV := Lib.hid hv
  have hp := fun w => place_any lba w
  by_cases h1 : count < 0
  · clear hp hu hv hun hvn h
    have H1 := Lib.hid (And.intro (Below.refl w.heap.size w) (And.intro (HU.out) (HV.out)))
    obtain ⟨W1, hW1⟩ : ∃ W1, w.alloc (.cells #[.bool fd, .int .i64 at9, .int .i64 hn, .string hs, .int .i64 an, .string as9, .slice ua up.length uc, .slice la left.length lc] 48) = W1 := ⟨_, rfl⟩
    have hbW1 : Below w.heap.size w W1 := by rw [← hW1]; exact alloc_below w _
    have kW1 : W1.heap[w.heap.size]? = some (.cells #[.bool fd, .int .i64 at9, .int .i64 hn, .string hs, .int .i64 an, .string as9, .slice ua up.length uc, .slice la left.length lc] 48 (0, 0)) := by rw [← hW1]; exact alloc_new w _
    have H2 := Lib.hid (And.intro (H1.out.1.trans (hbW1.mono H1.out.1.size)) (And.intro (H1.out.2.1.below hbW1) (And.intro (H1.out.2.2.below hbW1) (kW1))))
    clear hbW1 kW1
    obtain ⟨W2, hW2⟩ : ∃ W2, W1.alloc (.cells #[.string root, .int .i64 count] 75) = W2 := ⟨_, rfl⟩
    have hbW2 : Below W1.heap.size W1 W2 := by rw [← hW2]; exact alloc_below W1 _
    have kW2 : W2.heap[W1.heap.size]? = some (.cells #[.string root, .int .i64 count] 75 (0, 0)) := by rw [← hW2]; exact alloc_new W1 _
    have H3 := Lib.hid (And.intro (H2.out.1.trans (hbW2.mono H2.out.1.size)) (And.intro (H2.out.2.1.below hbW2) (And.intro (H2.out.2.2.1.below hbW2) (And.intro (blk_on hbW2 H2.out.2.2.2) (kW2)))))
    clear hbW2 kW2
    go_enter Try.func22, Try.ntmps22
    go_wp2
    go_ret3
    exact HR.out _ _ ⟨rfl, H3.out.1⟩
  · by_cases h2 : 4096 < count
    · clear hp hu hv hun hvn h
      have H1 := Lib.hid (And.intro (Below.refl w.heap.size w) (And.intro (HU.out) (HV.out)))
      obtain ⟨W1, hW1⟩ : ∃ W1, w.alloc (.cells #[.bool fd, .int .i64 at9, .int .i64 hn, .string hs, .int .i64 an, .string as9, .slice ua up.length uc, .slice la left.length lc] 48) = W1 := ⟨_, rfl⟩
      have hbW1 : Below w.heap.size w W1 := by rw [← hW1]; exact alloc_below w _
      have kW1 : W1.heap[w.heap.size]? = some (.cells #[.bool fd, .int .i64 at9, .int .i64 hn, .string hs, .int .i64 an, .string as9, .slice ua up.length uc, .slice la left.length lc] 48 (0, 0)) := by rw [← hW1]; exact alloc_new w _
      have H2 := Lib.hid (And.intro (H1.out.1.trans (hbW1.mono H1.out.1.size)) (And.intro (H1.out.2.1.below hbW1) (And.intro (H1.out.2.2.below hbW1) (kW1))))
      clear hbW1 kW1
      obtain ⟨W2, hW2⟩ : ∃ W2, W1.alloc (.cells #[.string root, .int .i64 count] 75) = W2 := ⟨_, rfl⟩
      have hbW2 : Below W1.heap.size W1 W2 := by rw [← hW2]; exact alloc_below W1 _
      have kW2 : W2.heap[W1.heap.size]? = some (.cells #[.string root, .int .i64 count] 75 (0, 0)) := by rw [← hW2]; exact alloc_new W1 _
      have H3 := Lib.hid (And.intro (H2.out.1.trans (hbW2.mono H2.out.1.size)) (And.intro (H2.out.2.1.below hbW2) (And.intro (H2.out.2.2.1.below hbW2) (And.intro (blk_on hbW2 H2.out.2.2.2) (kW2)))))
      clear hbW2 kW2
      go_enter Try.func22, Try.ntmps22
      go_wp2
      go_ret3
      exact HR.out _ _ ⟨rfl, H3.out.1⟩
    · rw [decide_eq_false (fun q => by unfold badAsk at h; omega)] at hp
      have HP := Lib.hid hp
      clear hp hu hv hun hvn h
      have H1 := Lib.hid (And.intro (Below.refl w.heap.size w) (And.intro (HU.out) (HV.out)))
      obtain ⟨W1, hW1⟩ : ∃ W1, w.alloc (.cells #[.bool fd, .int .i64 at9, .int .i64 hn, .string hs, .int .i64 an, .string as9, .slice ua up.length uc, .slice la left.length lc] 48) = W1 := ⟨_, rfl⟩
      have hbW1 : Below w.heap.size w W1 := by rw [← hW1]; exact alloc_below w _
      have kW1 : W1.heap[w.heap.size]? = some (.cells #[.bool fd, .int .i64 at9, .int .i64 hn, .string hs, .int .i64 an, .string as9, .slice ua up.length uc, .slice la left.length lc] 48 (0, 0)) := by rw [← hW1]; exact alloc_new w _
      have H2 := Lib.hid (And.intro (H1.out.1.trans (hbW1.mono H1.out.1.size)) (And.intro (H1.out.2.1.below hbW1) (And.intro (H1.out.2.2.below hbW1) (kW1))))
      clear hbW1 kW1
      obtain ⟨W2, hW2⟩ : ∃ W2, W1.alloc (.cells #[.string root, .int .i64 count] 75) = W2 := ⟨_, rfl⟩
      have hbW2 : Below W1.heap.size W1 W2 := by rw [← hW2]; exact alloc_below W1 _
      have kW2 : W2.heap[W1.heap.size]? = some (.cells #[.string root, .int .i64 count] 75 (0, 0)) := by rw [← hW2]; exact alloc_new W1 _
      have H3 := Lib.hid (And.intro (H2.out.1.trans (hbW2.mono H2.out.1.size)) (And.intro (H2.out.2.1.below hbW2) (And.intro (H2.out.2.2.1.below hbW2) (And.intro (blk_on hbW2 H2.out.2.2.2) (kW2)))))
      clear hbW2 kW2
      go_enter Try.func22, Try.ntmps22
      go_wp2_with fail
      refine (HP.out _).mono ?_
      rintro en v1 ⟨rfl, hw⟩
      rw [hw]
      clear hw
      go_wp2
      go_ret3
      exact HR.out _ _ ⟨rfl, H3.out.1⟩
set_option maxRecDepth 100000 in
set_option maxHeartbeats 4000000 in
theorem tells_off (root : ByteArray) (count lba : Int) (p : PrfD) (u v : Value) (w : World) (hu : Rd strE w u p.up) (hv : Rd strE w v p.left) (hun : p.up.length ≤ 100000000) (hvn : p.left.length ≤ 100000000) (h : ¬ badAsk count lba) (ha : p.at_ < 0 ∨ count < p.at_) :
    Calls Try.prog 22 #[.string root, .int .i64 count, .int .i64 lba, prfV p u v] w fun e w' => e = .returned (.tuple #[.string ⟨#[]⟩, .bool false, .int .i64 17]) ∧ Below w.heap.size w w' := by
  refine calls_by fun R HR => ?_
  obtain ⟨fd, at9, ⟨hn, hs⟩, ⟨an, as9⟩, up, left⟩ := p
  obtain ⟨ua, uc, rfl, -⟩ := hu.shape
  obtain ⟨la, lc, rfl, -⟩ := hv.shape
  dsimp only [prfV, prfC]
  have HU := Lib.hid hu
  have HV := Lib.hid hv
  have hp := fun w => place_any lba w
  rw [decide_eq_true (by unfold badAsk at h; omega)] at hp
  have HP := Lib.hid hp
  have g1 : ¬ count < 0 := by unfold badAsk at h; omega
  have g2 : ¬ 4096 < count := by unfold badAsk at h; omega
  simp only at ha
  clear hp h
  clear hu hv hun hvn
  by_cases h1 : at9 < 0
  · clear ha
    have H1 := Lib.hid (And.intro (Below.refl w.heap.size w) (And.intro (HU.out) (HV.out)))
    obtain ⟨W1, hW1⟩ : ∃ W1, w.alloc (.cells #[.bool fd, .int .i64 at9, .int .i64 hn, .string hs, .int .i64 an, .string as9, .slice ua up.length uc, .slice la left.length lc] 48) = W1 := ⟨_, rfl⟩
    have hbW1 : Below w.heap.size w W1 := by rw [← hW1]; exact alloc_below w _
    have kW1 : W1.heap[w.heap.size]? = some (.cells #[.bool fd, .int .i64 at9, .int .i64 hn, .string hs, .int .i64 an, .string as9, .slice ua up.length uc, .slice la left.length lc] 48 (0, 0)) := by rw [← hW1]; exact alloc_new w _
    have H2 := Lib.hid (And.intro (H1.out.1.trans (hbW1.mono H1.out.1.size)) (And.intro (H1.out.2.1.below hbW1) (And.intro (H1.out.2.2.below hbW1) (kW1))))
    clear hbW1 kW1
    obtain ⟨W2, hW2⟩ : ∃ W2, W1.alloc (.cells #[.string root, .int .i64 count] 75) = W2 := ⟨_, rfl⟩
    have hbW2 : Below W1.heap.size W1 W2 := by rw [← hW2]; exact alloc_below W1 _
    have kW2 : W2.heap[W1.heap.size]? = some (.cells #[.string root, .int .i64 count] 75 (0, 0)) := by rw [← hW2]; exact alloc_new W1 _
    have H3 := Lib.hid (And.intro (H2.out.1.trans (hbW2.mono H2.out.1.size)) (And.intro (H2.out.2.1.below hbW2) (And.intro (H2.out.2.2.1.below hbW2) (And.intro (blk_on hbW2 H2.out.2.2.2) (kW2)))))
    clear hbW2 kW2
    obtain ⟨y0, y1, fzc0, fzc1⟩ := blk2 H3.out.2.2.2.2
    obtain ⟨z0, z1, z2, z3, z4, z5, z6, z7⟩ := blk8 H3.out.2.2.2.1
    go_enter Try.func22, Try.ntmps22
    go_wp2_with fail
    refine (HP.out _).mono ?_
    rintro en v1 ⟨rfl, hw⟩
    rw [hw]
    clear hw
    go_wp2
    go_ret3
    exact HR.out _ _ ⟨rfl, H3.out.1⟩
  · have h3 : count < at9 := by omega
    clear ha
    have H1 := Lib.hid (And.intro (Below.refl w.heap.size w) (And.intro (HU.out) (HV.out)))
    obtain ⟨W1, hW1⟩ : ∃ W1, w.alloc (.cells #[.bool fd, .int .i64 at9, .int .i64 hn, .string hs, .int .i64 an, .string as9, .slice ua up.length uc, .slice la left.length lc] 48) = W1 := ⟨_, rfl⟩
    have hbW1 : Below w.heap.size w W1 := by rw [← hW1]; exact alloc_below w _
    have kW1 : W1.heap[w.heap.size]? = some (.cells #[.bool fd, .int .i64 at9, .int .i64 hn, .string hs, .int .i64 an, .string as9, .slice ua up.length uc, .slice la left.length lc] 48 (0, 0)) := by rw [← hW1]; exact alloc_new w _
    have H2 := Lib.hid (And.intro (H1.out.1.trans (hbW1.mono H1.out.1.size)) (And.intro (H1.out.2.1.below hbW1) (And.intro (H1.out.2.2.below hbW1) (kW1))))
    clear hbW1 kW1
    obtain ⟨W2, hW2⟩ : ∃ W2, W1.alloc (.cells #[.string root, .int .i64 count] 75) = W2 := ⟨_, rfl⟩
    have hbW2 : Below W1.heap.size W1 W2 := by rw [← hW2]; exact alloc_below W1 _
    have kW2 : W2.heap[W1.heap.size]? = some (.cells #[.string root, .int .i64 count] 75 (0, 0)) := by rw [← hW2]; exact alloc_new W1 _
    have H3 := Lib.hid (And.intro (H2.out.1.trans (hbW2.mono H2.out.1.size)) (And.intro (H2.out.2.1.below hbW2) (And.intro (H2.out.2.2.1.below hbW2) (And.intro (blk_on hbW2 H2.out.2.2.2) (kW2)))))
    clear hbW2 kW2
    obtain ⟨y0, y1, fzc0, fzc1⟩ := blk2 H3.out.2.2.2.2
    obtain ⟨z0, z1, z2, z3, z4, z5, z6, z7⟩ := blk8 H3.out.2.2.2.1
    go_enter Try.func22, Try.ntmps22
    go_wp2_with fail
    refine (HP.out _).mono ?_
    rintro en v1 ⟨rfl, hw⟩
    rw [hw]
    clear hw
    go_wp2
    go_ret3
    exact HR.out _ _ ⟨rfl, H3.out.1⟩
set_option maxRecDepth 100000 in
set_option maxHeartbeats 4000000 in
theorem tells_met (root : ByteArray) (count lba : Int) (p : PrfD) (u v : Value) (w : World) (hu : Rd strE w u p.up) (hv : Rd strE w v p.left) (hun : p.up.length ≤ 100000000) (hvn : p.left.length ≤ 100000000) (h : ¬ badAsk count lba) (h1 : 0 ≤ p.at_) (h2 : p.at_ ≤ count) (hf : p.found = true) (hb : foundB root count lba p = true) :
    Calls Try.prog 22 #[.string root, .int .i64 count, .int .i64 lba, prfV p u v] w fun e w' => e = .returned (.tuple #[.string p.here.2, .bool true, .int .i64 0]) ∧ Below w.heap.size w w' := by
  refine calls_by fun R HR => ?_
  obtain ⟨fd, at9, ⟨hn, hs⟩, ⟨an, as9⟩, up, left⟩ := p
  obtain ⟨ua, uc, rfl, -⟩ := hu.shape
  obtain ⟨la, lc, rfl, -⟩ := hv.shape
  dsimp only [prfV, prfC]
  have HU := Lib.hid hu
  have HV := Lib.hid hv
  have hp := fun w => place_any lba w
  rw [decide_eq_true (by unfold badAsk at h; omega)] at hp
  have HP := Lib.hid hp
  have g1 : ¬ count < 0 := by unfold badAsk at h; omega
  have g2 : ¬ 4096 < count := by unfold badAsk at h; omega
  simp only at h1 h2 hf hb
  clear hp h
  subst hf
  have a1 : ¬ at9 < 0 := by omega
  have a2 : ¬ count < at9 := by omega
  have HC := Lib.hid (fun w (h : Rd strE w (.slice ua up.length uc) up) (h' : Rd strE w (.slice la left.length lc) left) => found_any root count lba (p := ⟨true, at9, (hn, hs), (an, as9), up, left⟩) _ _ w h h' hun hvn)
  rw [hb] at HC
  clear hu hv hun hvn h1 h2 hb
  have H1 := Lib.hid (And.intro (Below.refl w.heap.size w) (And.intro (HU.out) (HV.out)))
  obtain ⟨W1, hW1⟩ : ∃ W1, w.alloc (.cells #[.bool true, .int .i64 at9, .int .i64 hn, .string hs, .int .i64 an, .string as9, .slice ua up.length uc, .slice la left.length lc] 48) = W1 := ⟨_, rfl⟩
  have hbW1 : Below w.heap.size w W1 := by rw [← hW1]; exact alloc_below w _
  have kW1 : W1.heap[w.heap.size]? = some (.cells #[.bool true, .int .i64 at9, .int .i64 hn, .string hs, .int .i64 an, .string as9, .slice ua up.length uc, .slice la left.length lc] 48 (0, 0)) := by rw [← hW1]; exact alloc_new w _
  have H2 := Lib.hid (And.intro (H1.out.1.trans (hbW1.mono H1.out.1.size)) (And.intro (H1.out.2.1.below hbW1) (And.intro (H1.out.2.2.below hbW1) (kW1))))
  clear hbW1 kW1
  obtain ⟨W2, hW2⟩ : ∃ W2, W1.alloc (.cells #[.string root, .int .i64 count] 75) = W2 := ⟨_, rfl⟩
  have hbW2 : Below W1.heap.size W1 W2 := by rw [← hW2]; exact alloc_below W1 _
  have kW2 : W2.heap[W1.heap.size]? = some (.cells #[.string root, .int .i64 count] 75 (0, 0)) := by rw [← hW2]; exact alloc_new W1 _
  have H3 := Lib.hid (And.intro (H2.out.1.trans (hbW2.mono H2.out.1.size)) (And.intro (H2.out.2.1.below hbW2) (And.intro (H2.out.2.2.1.below hbW2) (And.intro (blk_on hbW2 H2.out.2.2.2) (kW2)))))
  clear hbW2 kW2
  obtain ⟨y0, y1, fzc0, fzc1⟩ := blk2 H3.out.2.2.2.2
  obtain ⟨z0, z1, z2, z3, z4, z5, z6, z7⟩ := blk8 H3.out.2.2.2.1
  go_enter Try.func22, Try.ntmps22
  go_wp2_with fail
  refine (HP.out _).mono ?_
  rintro en v1 ⟨rfl, hw⟩
  rw [hw]
  clear hw
  go_wp2_with fail
  refine (HC.out _ H3.out.2.1 H3.out.2.2.1).mono ?_
  rintro en v2 ⟨rfl, hb⟩
  clear hW1 hW2 y0 y1 z0 z1 z2 z3 z4 z5 z6 z7
  have H4 := Lib.hid (And.intro (H3.out.1.trans (hb.mono H3.out.1.size)) (And.intro (H3.out.2.1.below hb) (And.intro (H3.out.2.2.1.below hb) (And.intro (blk_on hb H3.out.2.2.2.1) (blk_on hb H3.out.2.2.2.2)))))
  clear hb
  obtain ⟨z0, z1, z2, z3, z4, z5, z6, z7⟩ := blk8 H4.out.2.2.2.1
  go_wp2
  go_ret3
  exact HR.out _ _ ⟨rfl, H4.out.1⟩
set_option maxRecDepth 100000 in
set_option maxHeartbeats 4000000 in
theorem tells_unmet (root : ByteArray) (count lba : Int) (p : PrfD) (u v : Value) (w : World) (hu : Rd strE w u p.up) (hv : Rd strE w v p.left) (hun : p.up.length ≤ 100000000) (hvn : p.left.length ≤ 100000000) (h : ¬ badAsk count lba) (h1 : 0 ≤ p.at_) (h2 : p.at_ ≤ count) (hf : p.found = true) (hb : foundB root count lba p = false) :
    Calls Try.prog 22 #[.string root, .int .i64 count, .int .i64 lba, prfV p u v] w fun e w' => e = .returned (.tuple #[.string ⟨#[]⟩, .bool false, .int .i64 17]) ∧ Below w.heap.size w w' := by
  refine calls_by fun R HR => ?_
  obtain ⟨fd, at9, ⟨hn, hs⟩, ⟨an, as9⟩, up, left⟩ := p
  obtain ⟨ua, uc, rfl, -⟩ := hu.shape
  obtain ⟨la, lc, rfl, -⟩ := hv.shape
  dsimp only [prfV, prfC]
  have HU := Lib.hid hu
  have HV := Lib.hid hv
  have hp := fun w => place_any lba w
  rw [decide_eq_true (by unfold badAsk at h; omega)] at hp
  have HP := Lib.hid hp
  have g1 : ¬ count < 0 := by unfold badAsk at h; omega
  have g2 : ¬ 4096 < count := by unfold badAsk at h; omega
  simp only at h1 h2 hf hb
  clear hp h
  subst hf
  have a1 : ¬ at9 < 0 := by omega
  have a2 : ¬ count < at9 := by omega
  have HC := Lib.hid (fun w (h : Rd strE w (.slice ua up.length uc) up) (h' : Rd strE w (.slice la left.length lc) left) => found_any root count lba (p := ⟨true, at9, (hn, hs), (an, as9), up, left⟩) _ _ w h h' hun hvn)
  rw [hb] at HC
  clear hu hv hun hvn h1 h2 hb
  have H1 := Lib.hid (And.intro (Below.refl w.heap.size w) (And.intro (HU.out) (HV.out)))
  obtain ⟨W1, hW1⟩ : ∃ W1, w.alloc (.cells #[.bool true, .int .i64 at9, .int .i64 hn, .string hs, .int .i64 an, .string as9, .slice ua up.length uc, .slice la left.length lc] 48) = W1 := ⟨_, rfl⟩
  have hbW1 : Below w.heap.size w W1 := by rw [← hW1]; exact alloc_below w _
  have kW1 : W1.heap[w.heap.size]? = some (.cells #[.bool true, .int .i64 at9, .int .i64 hn, .string hs, .int .i64 an, .string as9, .slice ua up.length uc, .slice la left.length lc] 48 (0, 0)) := by rw [← hW1]; exact alloc_new w _
  have H2 := Lib.hid (And.intro (H1.out.1.trans (hbW1.mono H1.out.1.size)) (And.intro (H1.out.2.1.below hbW1) (And.intro (H1.out.2.2.below hbW1) (kW1))))
  clear hbW1 kW1
  obtain ⟨W2, hW2⟩ : ∃ W2, W1.alloc (.cells #[.string root, .int .i64 count] 75) = W2 := ⟨_, rfl⟩
  have hbW2 : Below W1.heap.size W1 W2 := by rw [← hW2]; exact alloc_below W1 _
  have kW2 : W2.heap[W1.heap.size]? = some (.cells #[.string root, .int .i64 count] 75 (0, 0)) := by rw [← hW2]; exact alloc_new W1 _
  have H3 := Lib.hid (And.intro (H2.out.1.trans (hbW2.mono H2.out.1.size)) (And.intro (H2.out.2.1.below hbW2) (And.intro (H2.out.2.2.1.below hbW2) (And.intro (blk_on hbW2 H2.out.2.2.2) (kW2)))))
  clear hbW2 kW2
  obtain ⟨y0, y1, fzc0, fzc1⟩ := blk2 H3.out.2.2.2.2
  obtain ⟨z0, z1, z2, z3, z4, z5, z6, z7⟩ := blk8 H3.out.2.2.2.1
  go_enter Try.func22, Try.ntmps22
  go_wp2_with fail
  refine (HP.out _).mono ?_
  rintro en v1 ⟨rfl, hw⟩
  rw [hw]
  clear hw
  go_wp2_with fail
  refine (HC.out _ H3.out.2.1 H3.out.2.2.1).mono ?_
  rintro en v2 ⟨rfl, hb⟩
  clear hW1 hW2 y0 y1 z0 z1 z2 z3 z4 z5 z6 z7
  have H4 := Lib.hid (And.intro (H3.out.1.trans (hb.mono H3.out.1.size)) (And.intro (H3.out.2.1.below hb) (And.intro (H3.out.2.2.1.below hb) (And.intro (blk_on hb H3.out.2.2.2.1) (blk_on hb H3.out.2.2.2.2)))))
  clear hb
  obtain ⟨z0, z1, z2, z3, z4, z5, z6, z7⟩ := blk8 H4.out.2.2.2.1
  go_wp2
  go_ret3
  exact HR.out _ _ ⟨rfl, H4.out.1⟩
set_option maxRecDepth 100000 in
set_option maxHeartbeats 4000000 in
theorem tells_none (root : ByteArray) (count lba : Int) (p : PrfD) (u v : Value) (w : World) (hu : Rd strE w u p.up) (hv : Rd strE w v p.left) (hun : p.up.length ≤ 100000000) (hvn : p.left.length ≤ 100000000) (h : ¬ badAsk count lba) (h1 : 0 ≤ p.at_) (h2 : p.at_ ≤ count) (hf : p.found = false) (hb : noneB root count lba p = true) :
    Calls Try.prog 22 #[.string root, .int .i64 count, .int .i64 lba, prfV p u v] w fun e w' => e = .returned (.tuple #[.string ⟨#[]⟩, .bool false, .int .i64 0]) ∧ Below w.heap.size w w' := by
  refine calls_by fun R HR => ?_
  obtain ⟨fd, at9, ⟨hn, hs⟩, ⟨an, as9⟩, up, left⟩ := p
  obtain ⟨ua, uc, rfl, -⟩ := hu.shape
  obtain ⟨la, lc, rfl, -⟩ := hv.shape
  dsimp only [prfV, prfC]
  have HU := Lib.hid hu
  have HV := Lib.hid hv
  have hp := fun w => place_any lba w
  rw [decide_eq_true (by unfold badAsk at h; omega)] at hp
  have HP := Lib.hid hp
  have g1 : ¬ count < 0 := by unfold badAsk at h; omega
  have g2 : ¬ 4096 < count := by unfold badAsk at h; omega
  simp only at h1 h2 hf hb
  clear hp h
  subst hf
  have a1 : ¬ at9 < 0 := by omega
  have a2 : ¬ count < at9 := by omega
  have HC := Lib.hid (fun w (h : Rd strE w (.slice ua up.length uc) up) (h' : Rd strE w (.slice la left.length lc) left) => none_any root count lba (p := ⟨false, at9, (hn, hs), (an, as9), up, left⟩) _ _ w h h' hun hvn h1 h2 (by omega))
  rw [hb] at HC
  clear hu hv hun hvn h1 h2 hb
  have H1 := Lib.hid (And.intro (Below.refl w.heap.size w) (And.intro (HU.out) (HV.out)))
  obtain ⟨W1, hW1⟩ : ∃ W1, w.alloc (.cells #[.bool false, .int .i64 at9, .int .i64 hn, .string hs, .int .i64 an, .string as9, .slice ua up.length uc, .slice la left.length lc] 48) = W1 := ⟨_, rfl⟩
  have hbW1 : Below w.heap.size w W1 := by rw [← hW1]; exact alloc_below w _
  have kW1 : W1.heap[w.heap.size]? = some (.cells #[.bool false, .int .i64 at9, .int .i64 hn, .string hs, .int .i64 an, .string as9, .slice ua up.length uc, .slice la left.length lc] 48 (0, 0)) := by rw [← hW1]; exact alloc_new w _
  have H2 := Lib.hid (And.intro (H1.out.1.trans (hbW1.mono H1.out.1.size)) (And.intro (H1.out.2.1.below hbW1) (And.intro (H1.out.2.2.below hbW1) (kW1))))
  clear hbW1 kW1
  obtain ⟨W2, hW2⟩ : ∃ W2, W1.alloc (.cells #[.string root, .int .i64 count] 75) = W2 := ⟨_, rfl⟩
  have hbW2 : Below W1.heap.size W1 W2 := by rw [← hW2]; exact alloc_below W1 _
  have kW2 : W2.heap[W1.heap.size]? = some (.cells #[.string root, .int .i64 count] 75 (0, 0)) := by rw [← hW2]; exact alloc_new W1 _
  have H3 := Lib.hid (And.intro (H2.out.1.trans (hbW2.mono H2.out.1.size)) (And.intro (H2.out.2.1.below hbW2) (And.intro (H2.out.2.2.1.below hbW2) (And.intro (blk_on hbW2 H2.out.2.2.2) (kW2)))))
  clear hbW2 kW2
  obtain ⟨y0, y1, fzc0, fzc1⟩ := blk2 H3.out.2.2.2.2
  obtain ⟨z0, z1, z2, z3, z4, z5, z6, z7⟩ := blk8 H3.out.2.2.2.1
  go_enter Try.func22, Try.ntmps22
  go_wp2_with fail
  refine (HP.out _).mono ?_
  rintro en v1 ⟨rfl, hw⟩
  rw [hw]
  clear hw
  go_wp2_with fail
  refine (HC.out _ H3.out.2.1 H3.out.2.2.1).mono ?_
  rintro en v2 ⟨rfl, hb⟩
  clear hW1 hW2 y0 y1 z0 z1 z2 z3 z4 z5 z6 z7
  have H4 := Lib.hid (And.intro (H3.out.1.trans (hb.mono H3.out.1.size)) (And.intro (H3.out.2.1.below hb) (And.intro (H3.out.2.2.1.below hb) (And.intro (blk_on hb H3.out.2.2.2.1) (blk_on hb H3.out.2.2.2.2)))))
  clear hb
  go_wp2
  go_ret3
  exact HR.out _ _ ⟨rfl, H4.out.1⟩
set_option maxRecDepth 100000 in
set_option maxHeartbeats 4000000 in
theorem tells_some (root : ByteArray) (count lba : Int) (p : PrfD) (u v : Value) (w : World) (hu : Rd strE w u p.up) (hv : Rd strE w v p.left) (hun : p.up.length ≤ 100000000) (hvn : p.left.length ≤ 100000000) (h : ¬ badAsk count lba) (h1 : 0 ≤ p.at_) (h2 : p.at_ ≤ count) (hf : p.found = false) (hb : noneB root count lba p = false) :
    Calls Try.prog 22 #[.string root, .int .i64 count, .int .i64 lba, prfV p u v] w fun e w' => e = .returned (.tuple #[.string ⟨#[]⟩, .bool false, .int .i64 17]) ∧ Below w.heap.size w w' := by
  refine calls_by fun R HR => ?_
  obtain ⟨fd, at9, ⟨hn, hs⟩, ⟨an, as9⟩, up, left⟩ := p
  obtain ⟨ua, uc, rfl, -⟩ := hu.shape
  obtain ⟨la, lc, rfl, -⟩ := hv.shape
  dsimp only [prfV, prfC]
  have HU := Lib.hid hu
  have HV := Lib.hid hv
  have hp := fun w => place_any lba w
  rw [decide_eq_true (by unfold badAsk at h; omega)] at hp
  have HP := Lib.hid hp
  have g1 : ¬ count < 0 := by unfold badAsk at h; omega
  have g2 : ¬ 4096 < count := by unfold badAsk at h; omega
  simp only at h1 h2 hf hb
  clear hp h
  subst hf
  have a1 : ¬ at9 < 0 := by omega
  have a2 : ¬ count < at9 := by omega
  have HC := Lib.hid (fun w (h : Rd strE w (.slice ua up.length uc) up) (h' : Rd strE w (.slice la left.length lc) left) => none_any root count lba (p := ⟨false, at9, (hn, hs), (an, as9), up, left⟩) _ _ w h h' hun hvn h1 h2 (by omega))
  rw [hb] at HC
  clear hu hv hun hvn h1 h2 hb
  have H1 := Lib.hid (And.intro (Below.refl w.heap.size w) (And.intro (HU.out) (HV.out)))
  obtain ⟨W1, hW1⟩ : ∃ W1, w.alloc (.cells #[.bool false, .int .i64 at9, .int .i64 hn, .string hs, .int .i64 an, .string as9, .slice ua up.length uc, .slice la left.length lc] 48) = W1 := ⟨_, rfl⟩
  have hbW1 : Below w.heap.size w W1 := by rw [← hW1]; exact alloc_below w _
  have kW1 : W1.heap[w.heap.size]? = some (.cells #[.bool false, .int .i64 at9, .int .i64 hn, .string hs, .int .i64 an, .string as9, .slice ua up.length uc, .slice la left.length lc] 48 (0, 0)) := by rw [← hW1]; exact alloc_new w _
  have H2 := Lib.hid (And.intro (H1.out.1.trans (hbW1.mono H1.out.1.size)) (And.intro (H1.out.2.1.below hbW1) (And.intro (H1.out.2.2.below hbW1) (kW1))))
  clear hbW1 kW1
  obtain ⟨W2, hW2⟩ : ∃ W2, W1.alloc (.cells #[.string root, .int .i64 count] 75) = W2 := ⟨_, rfl⟩
  have hbW2 : Below W1.heap.size W1 W2 := by rw [← hW2]; exact alloc_below W1 _
  have kW2 : W2.heap[W1.heap.size]? = some (.cells #[.string root, .int .i64 count] 75 (0, 0)) := by rw [← hW2]; exact alloc_new W1 _
  have H3 := Lib.hid (And.intro (H2.out.1.trans (hbW2.mono H2.out.1.size)) (And.intro (H2.out.2.1.below hbW2) (And.intro (H2.out.2.2.1.below hbW2) (And.intro (blk_on hbW2 H2.out.2.2.2) (kW2)))))
  clear hbW2 kW2
  obtain ⟨y0, y1, fzc0, fzc1⟩ := blk2 H3.out.2.2.2.2
  obtain ⟨z0, z1, z2, z3, z4, z5, z6, z7⟩ := blk8 H3.out.2.2.2.1
  go_enter Try.func22, Try.ntmps22
  go_wp2_with fail
  refine (HP.out _).mono ?_
  rintro en v1 ⟨rfl, hw⟩
  rw [hw]
  clear hw
  go_wp2_with fail
  refine (HC.out _ H3.out.2.1 H3.out.2.2.1).mono ?_
  rintro en v2 ⟨rfl, hb⟩
  clear hW1 hW2 y0 y1 z0 z1 z2 z3 z4 z5 z6 z7
  have H4 := Lib.hid (And.intro (H3.out.1.trans (hb.mono H3.out.1.size)) (And.intro (H3.out.2.1.below hb) (And.intro (H3.out.2.2.1.below hb) (And.intro (blk_on hb H3.out.2.2.2.1) (blk_on hb H3.out.2.2.2.2)))))
  clear hb
  go_wp2
  go_ret3
  exact HR.out _ _ ⟨rfl, H4.out.1⟩
theorem tells_any (root : ByteArray) (count lba : Int) (p : PrfD) (u v : Value) (w : World) (hu : Rd strE w u p.up) (hv : Rd strE w v p.left) (hun : p.up.length ≤ 100000000) (hvn : p.left.length ≤ 100000000) :
    Calls Try.prog 22 #[.string root, .int .i64 count, .int .i64 lba, prfV p u v] w fun e w' => e = .returned (.tuple #[.string (tellsP root count lba p).1, .bool (tellsP root count lba p).2.1, .int .i64 (tellsP root count lba p).2.2]) ∧ Below w.heap.size w w' := by
  by_cases h1 : badAsk count lba
  · rw [tellsP, if_pos h1]; exact tells_bad root count lba p u v w hu hv hun hvn h1
  by_cases h2 : p.at_ < 0 ∨ count < p.at_
  · rw [tellsP, if_neg h1, if_pos h2]; exact tells_off root count lba p u v w hu hv hun hvn h1 h2
  by_cases h3 : p.found = true
  · by_cases h4 : foundB root count lba p = true
    · rw [tellsP, if_neg h1, if_neg h2, if_pos h3, if_pos h4]; exact tells_met root count lba p u v w hu hv hun hvn h1 (by omega) (by omega) h3 h4
    · rw [tellsP, if_neg h1, if_neg h2, if_pos h3, if_neg h4]; exact tells_unmet root count lba p u v w hu hv hun hvn h1 (by omega) (by omega) h3 (by simpa using h4)
  · by_cases h4 : noneB root count lba p = true
    · rw [tellsP, if_neg h1, if_neg h2, if_neg h3, if_pos h4]; exact tells_none root count lba p u v w hu hv hun hvn h1 (by omega) (by omega) (by simpa using h3) h4
    · rw [tellsP, if_neg h1, if_neg h2, if_neg h3, if_neg h4]; exact tells_some root count lba p u v w hu hv hun hvn h1 (by omega) (by omega) (by simpa using h3) (by simpa using h4)
end Go.Proofs.Ytdbabkkmdlkjaaa
/- The proof of a place: proof.Prove, where there is one. -/
namespace Ks
open Go Go.RowKit
set_option linter.unusedVariables false
theorem set8_6 {w : World} {n : Nat} {c0 c1 c2 c3 c4 c5 c6 c7 : Value} {T : TypeId} (u : Value) (h : w.heap[n]? = some (.cells #[c0, c1, c2, c3, c4, c5, c6, c7] T (0, 0))) : (w.setCell ⟨n, 6, none⟩ u).heap[n]? = some (.cells #[c0, c1, c2, c3, c4, c5, u, c7] T (0, 0)) := by
  simp [World.setCell, Array.getElem?_modify, h]
theorem set8_7 {w : World} {n : Nat} {c0 c1 c2 c3 c4 c5 c6 c7 : Value} {T : TypeId} (u : Value) (h : w.heap[n]? = some (.cells #[c0, c1, c2, c3, c4, c5, c6, c7] T (0, 0))) : (w.setCell ⟨n, 7, none⟩ u).heap[n]? = some (.cells #[c0, c1, c2, c3, c4, c5, c6, u] T (0, 0)) := by
  simp [World.setCell, Array.getElem?_modify, h]
theorem row_under (w : World) (b : Nat) (C : Array Value) : Below b w (w.setRow b C) := ⟨rfl, rfl, rfl, by simp, fun k hk => setRow_other w b k C (by omega)⟩
theorem cell_under (w : World) (b o : Nat) (u : Value) : Below b w (w.setCell ⟨b, o, none⟩ u) := (Below.refl b w).setCell (Nat.le_refl _) u
/-- a row of its own, behind a block that is turned -/
theorem Row.past {α : Type} {E : Enc α} {w w' : World} {B b : Nat} {T : TypeId} {v : Value} {l : List α} (h : Row E w B T v l) (hb : b < B) (hk : ∀ k, k ≠ b → w'.heap[k]? = w.heap[k]?) : Row E w' B T v l :=
  h.keep fun k e => hk k (by have := (h.lt e).1; omega)
end Ks
namespace Go.Proofs.Ytdbabkkmdlkjaaa
open Go.RowKit Ks
set_option linter.unusedVariables false
theorem right_yes {lv : Value} {l : List LeafT} (hr : rightB l = true) (w : World) (hl : Rd leafE w lv l) (hlen : l.length ≤ 1000000) :
    Calls Try.prog 38 #[lv] w fun e w' => e = .returned (.int .i64 0) ∧ Below w.heap.size w w' := by
  have h := right_any lv l w hl hlen
  rwa [if_pos hr] at h
theorem place_yes {lba : Int} (h : 0 ≤ lba ∧ lba < 4096) (w : World) : Calls Try.prog 34 #[.int .i64 lba] w fun e w' => e = .returned (.bool true) ∧ w' = w := by
  have := place_any lba w
  rwa [decide_eq_true h] at this
theorem find_is {lba : Int} {l : List LeafT} {n : Nat} {m : Bool} (hn : aheadN lba l = n) (hm : metP l lba = m) (v : Value) (w : World) (hl : Rd leafE w v l) (hlen : l.length ≤ 1000000) (hs : l.Pairwise fun a b => a.1 < b.1) :
    Calls Try.prog 46 #[v, .int .i64 lba, .func (.func 47) #[] #[]] w fun e w' => e = .returned (.tuple #[.int .i64 (n : Nat), .bool m]) ∧ Below w.heap.size w w' := by
  have h := find_any v l lba w hl hlen hs
  rwa [hn, hm] at h
theorem path_at {l : List LeafT} {n : Nat} (h : n < l.length) (v : Value) (w : World) (hr : Rd strE w v (hashL l)) (hl : l.length ≤ 1000000) :
    Calls Try.prog 49 #[v, .int .i64 (n : Nat)] w fun e w' => ∃ v, e = .returned (.tuple #[v, .int .i64 0]) ∧ Row strE w' w.heap.size 9 v (pathL (hashL l) n) ∧ Below w.heap.size w w' := by
  have hc : wholeL (hashL l) = true ∧ (0 : Int) ≤ (n : Int) ∧ ((n : Nat) : Int) < (hashL l).length := ⟨hashL_whole l, by omega, by rw [hashL_length]; omega⟩
  have h2 := path_any v (hashL l) (n : Int) w hr (by rw [hashL_length]; omega)
  rw [pathE, pathV, if_pos hc, if_pos hc, Int.toNat_natCast] at h2
  exact h2
set_option maxRecDepth 100000 in
set_option maxHeartbeats 16000000 in
theorem prove_met (lv : Value) (l : List LeafT) (lba : Int) (w : World) (hl : Rd leafE w lv l) (hlen : l.length ≤ 1000000) (hr : rightB l = true) (hlb : 0 ≤ lba ∧ lba < 4096) (n : Nat) (hn : aheadN lba l = n) (hm : metP l lba = true) (hnn : n < l.length) (x : LeafT) (hx : l[n]? = some x) :
    Calls Try.prog 29 #[lv, .int .i64 lba] w fun e w' => ∃ u v, e = .returned (.tuple #[prfV (proveP l lba) u v, .int .i64 0]) ∧ Row strE w' w.heap.size 9 u (proveP l lba).up ∧ Row strE w' w.heap.size 9 v (proveP l lba).left ∧ Below w.heap.size w w' := by
  refine calls_by fun R HR => ?_
  have hsr := ((rightB_spec l).1 hr).2
  have HL := Lib.hid (And.intro hl (And.intro hlen hsr))
  have HCk := Lib.hid (fun w h => right_yes (lv := lv) hr w h hlen)
  have HPl := Lib.hid (place_yes hlb)
  have HFi := Lib.hid (fun w h => find_is hn hm lv w h hlen hsr)
  have HHs := Lib.hid (fun w h => hashes_any lv l w h hlen)
  have HP1 := Lib.hid (fun v w h => path_at (l := l) (n := n) hnn v w h hlen)
  obtain ⟨xl, xs⟩ := x
  have HV := Lib.hid (show proveP l lba = ⟨true, n, (xl, xs), noLeaf, pathL (hashL l) n, []⟩ by
    simp [proveP, hn, hm, hnn, here_some hx])
  obtain ⟨a, cap, rfl, hcap, -⟩ := hl.shape
  have hnl : n ≤ l.length := by rw [← hn]; exact ahead_le lba l
  clear hr hl hlb hm hn
  have hli : (l.length : Int) ≤ 1000000 := by omega
  have H1 := Lib.hid (And.intro (Below.refl w.heap.size w) (HL.out.1))
  obtain ⟨W1, hW1⟩ : ∃ W1, w.alloc (.cells #[.bool false, .int .i64 0, .int .i64 0, .string ⟨#[]⟩, .int .i64 0, .string ⟨#[]⟩, .slice none 0 0, .slice none 0 0] 48) = W1 := ⟨_, rfl⟩
  have hbW1 : Below w.heap.size w W1 := by rw [← hW1]; exact alloc_below w _
  have kW1 : W1.heap[w.heap.size]? = some (.cells #[.bool false, .int .i64 0, .int .i64 0, .string ⟨#[]⟩, .int .i64 0, .string ⟨#[]⟩, .slice none 0 0, .slice none 0 0] 48 (0, 0)) := by rw [← hW1]; exact alloc_new w _
  have H2 := Lib.hid (And.intro (H1.out.1.trans (hbW1.mono H1.out.1.size)) (And.intro (H1.out.2.below hbW1) (kW1)))
  clear hbW1 kW1
  go_enter Try.func29, Try.ntmps29
  go_wp2_with fail
  refine (HCk.out _ H2.out.2.1).mono ?_
  rintro en v1 ⟨rfl, hb⟩
  clear hW1
  have H3 := Lib.hid (And.intro (H2.out.1.trans (hb.mono H2.out.1.size)) (And.intro (H2.out.2.1.below hb) (blk_on hb H2.out.2.2)))
  clear hb
  go_wp2_with fail
  refine (HPl.out _).mono ?_
  rintro en v2 ⟨rfl, hw⟩
  rw [hw]
  clear hw
  go_wp2_with fail
  refine (HHs.out _ H3.out.2.1).mono ?_
  rintro en v3 ⟨tv, rfl, hrow, hb⟩
  obtain ⟨ta, tc, rfl, -⟩ := hrow.shape
  have H4 := Lib.hid (And.intro (H3.out.1.trans (hb.mono H3.out.1.size)) (And.intro (H3.out.2.1.below hb) (And.intro (blk_on hb H3.out.2.2) (hrow.rd))))
  clear hb
  clear hrow
  go_wp2_with fail
  refine (HFi.out _ H4.out.2.1).mono ?_
  rintro en v4 ⟨rfl, hb⟩
  have H5 := Lib.hid (And.intro (H4.out.1.trans (hb.mono H4.out.1.size)) (And.intro (H4.out.2.1.below hb) (And.intro (blk_on hb H4.out.2.2.1) (H4.out.2.2.2.below hb))))
  clear hb
  obtain ⟨pb, hpb⟩ : ∃ pb, v4.heap.size = pb := ⟨_, rfl⟩
  obtain ⟨P0, hP0⟩ : ∃ P0, v4.alloc (.cells #[.bool true, .int .i64 (n : Nat), .int .i64 0, .string ⟨#[]⟩, .int .i64 0, .string ⟨#[]⟩, .slice none 0 0, .slice none 0 0] 48) = P0 := ⟨_, rfl⟩
  have K0 := Lib.hid (show P0.heap[pb]? = some (.cells #[.bool true, .int .i64 (n : Nat), .int .i64 0, .string ⟨#[]⟩, .int .i64 0, .string ⟨#[]⟩, .slice none 0 0, .slice none 0 0] 48 (0, 0)) by rw [← hP0, ← hpb]; exact alloc_new v4 _)
  have B0 := Lib.hid (show Below pb v4 P0 by rw [← hP0, ← hpb]; exact alloc_below v4 _)
  have Z0 := Lib.hid (show pb < P0.heap.size from lt_of_block K0.out)
  have E0 := Lib.hid hP0
  clear hP0
  go_upto_region 7 with fail
  rw [E0.out]
  clear E0
  have hni : (n : Int) < (l.length : Int) := by omega
  obtain ⟨b, o, ha, hb0, dd⟩ := (H5.out.2.1.below (hpb ▸ B0.out)).at (n) _ hx
  subst ha
  have d0 : P0.cell? ⟨b, o + (n) * 2, none⟩ = some (.int .i64 xl) := dd 0 _ rfl
  have d1 : P0.cell? ⟨b, o + (n) * 2 + 1, none⟩ = some (.string xs) := dd 1 _ rfl
  clear dd hb0
  obtain ⟨P1, hP1⟩ : ∃ W, P0.setRow pb #[.bool true, .int .i64 (n : Nat), .int .i64 xl, .string xs, .int .i64 0, .string ⟨#[]⟩, .slice none 0 0, .slice none 0 0] = W := ⟨_, rfl⟩
  have K1 := Lib.hid (show P1.heap[pb]? = some (.cells #[.bool true, .int .i64 (n : Nat), .int .i64 xl, .string xs, .int .i64 0, .string ⟨#[]⟩, .slice none 0 0, .slice none 0 0] 48 (0, 0)) by rw [← hP1]; exact setRow_heap P0 pb _ _ _ _ K0.out)
  have B1 := Lib.hid (show Below pb v4 P1 by rw [← hP1]; exact B0.out.trans (row_under P0 pb _))
  go_wp2_with (refine wpList_store_blk rfl 45 (.tmp 40) (.tmp 39) rfl pb 2 2 rfl #[.bool true, .int .i64 (n : Nat), .int .i64 0, .string ⟨#[]⟩, .int .i64 0, .string ⟨#[]⟩, .slice none 0 0, .slice none 0 0] #[.int .i64 xl, .string xs] #[.bool true, .int .i64 (n : Nat), .int .i64 xl, .string xs, .int .i64 0, .string ⟨#[]⟩, .slice none 0 0, .slice none 0 0] rfl 48 K0.out rfl (show 2 + 2 ≤ 8 by decide) (by kernel_rfl) (leaf_one _ _) rfl ?_; rw [hP1])
  clear hP1 d0 d1
  refine (HP1.out _ _ (H5.out.2.2.2.below (hpb ▸ B1.out))).mono ?_
  rintro en q1 ⟨uv, rfl, hrow, hb⟩
  obtain ⟨ua, uc, rfl, -⟩ := hrow.shape
  have K2 := Lib.hid (blk_on hb K1.out)
  have B2 := Lib.hid (B1.out.trans (hb.mono (Nat.le_of_lt (lt_of_block K1.out))))
  have Ru2 := Lib.hid hrow
  have Zu := Lib.hid (show pb < P1.heap.size from lt_of_block K1.out)
  clear hb hrow
  have c6 : q1.cell? ⟨pb, 6, none⟩ = some (.slice none 0 0) := (blk8 K2.out).2.2.2.2.2.2.1
  have f6 : q1.frozen? ⟨pb, 6, none⟩ = false := frozen_of_row q1 pb _ _ _ K2.out
  obtain ⟨P3, hP3⟩ : ∃ W, q1.setCell ⟨pb, 6, none⟩ (.slice ua (pathL (hashL l) n).length uc) = W := ⟨_, rfl⟩
  have K3 := Lib.hid (show P3.heap[pb]? = some (.cells #[.bool true, .int .i64 (n : Nat), .int .i64 xl, .string xs, .int .i64 0, .string ⟨#[]⟩, .slice ua (pathL (hashL l) n).length uc, .slice none 0 0] 48 (0, 0)) by rw [← hP3]; exact set8_6 _ K2.out)
  have B3 := Lib.hid (show Below pb v4 P3 by rw [← hP3]; exact B2.out.trans (cell_under q1 pb _ _))
  have Ru3 := Lib.hid (show Row strE P3 P1.heap.size 9 (.slice ua (pathL (hashL l) n).length uc) (pathL (hashL l) n) from by rw [← hP3]; exact Ru2.out.past Zu.out (fun k h => set_ne _ h))
  go_upto_region 10 with fail
  try rw [hP3]
  clear hP3 c6 f6
  go_upto_region 13 with fail
  obtain ⟨z0, z1, z2, z3, z4, z5, z6, z7⟩ := blk8 K3.out
  have KR := Lib.hid (blk_on (hpb ▸ B3.out) H5.out.2.2.1)
  obtain ⟨WR, hWR⟩ : ∃ W, P3.setRow w.heap.size #[.bool true, .int .i64 (n : Nat), .int .i64 xl, .string xs, .int .i64 0, .string ⟨#[]⟩, .slice ua (pathL (hashL l) n).length uc, .slice none 0 0] = W := ⟨_, rfl⟩
  have KE := Lib.hid (show WR.heap[w.heap.size]? = some (.cells #[.bool true, .int .i64 (n : Nat), .int .i64 xl, .string xs, .int .i64 0, .string ⟨#[]⟩, .slice ua (pathL (hashL l) n).length uc, .slice none 0 0] 48 (0, 0)) by rw [← hWR]; exact setRow_heap P3 _ _ _ _ _ KR.out)
  have BE := Lib.hid (show Below w.heap.size w WR by rw [← hWR]; exact (H5.out.1.trans ((hpb ▸ B3.out : Below v4.heap.size v4 P3).mono H5.out.1.size)).trans (row_under P3 _ _))
  have hlw := H5.out.1.size
  have REu := Lib.hid (show Row strE WR w.heap.size 9 (.slice ua (pathL (hashL l) n).length uc) (pathL (hashL l) n) by rw [← hWR]; exact (Ru3.out.past (b := w.heap.size) (by have := Zu.out; omega) (fun k h => setRow_other _ _ k _ h)).down (by have := Zu.out; omega))
  clear hlw
  go_wp2_with (refine wpList_store_blk rfl 48 (.tmp 4) (.tmp 68) rfl w.heap.size 0 8 rfl #[.bool false, .int .i64 0, .int .i64 0, .string ⟨#[]⟩, .int .i64 0, .string ⟨#[]⟩, .slice none 0 0, .slice none 0 0] #[.bool true, .int .i64 (n : Nat), .int .i64 xl, .string xs, .int .i64 0, .string ⟨#[]⟩, .slice ua (pathL (hashL l) n).length uc, .slice none 0 0] #[.bool true, .int .i64 (n : Nat), .int .i64 xl, .string xs, .int .i64 0, .string ⟨#[]⟩, .slice ua (pathL (hashL l) n).length uc, .slice none 0 0] rfl 48 KR.out rfl (Nat.le_refl 8) (by kernel_rfl) (prf_one _ _ _ _ _ _ _ _ _ _ _ _) (splice_all _ _ rfl) ?_; rw [hWR])
  clear hWR z0 z1 z2 z3 z4 z5 z6 z7
  obtain ⟨z0, z1, z2, z3, z4, z5, z6, z7⟩ := blk8 KE.out
  refine bodyPost_ret (v := .tuple #[.agg #[.bool true, .int .i64 (n : Nat), .int .i64 xl, .string xs, .int .i64 0, .string ⟨#[]⟩, .slice ua (pathL (hashL l) n).length uc, .slice none 0 0], .int .i64 0]) (by simp [results, Try.results29, go_sem, z0, z1, z2, z3, z4, z5, z6, z7]) rfl ?_
  exact HR.out _ _ ⟨.slice ua (pathL (hashL l) n).length uc, .slice none 0 0, by rw [HV.out]; try rfl, by rw [HV.out]; exact REu.out, by rw [HV.out]; exact Row.nil _ _ _, BE.out⟩
set_option maxRecDepth 100000 in
set_option maxHeartbeats 16000000 in
theorem prove_nil (lv : Value) (l : List LeafT) (lba : Int) (w : World) (hl : Rd leafE w lv l) (hlen : l.length ≤ 1000000) (hr : rightB l = true) (hlb : 0 ≤ lba ∧ lba < 4096) (n : Nat) (hn : aheadN lba l = n) (hm : metP l lba = false) (hnn : ¬ n < l.length) (h0 : ¬ 0 < n) :
    Calls Try.prog 29 #[lv, .int .i64 lba] w fun e w' => ∃ u v, e = .returned (.tuple #[prfV (proveP l lba) u v, .int .i64 0]) ∧ Row strE w' w.heap.size 9 u (proveP l lba).up ∧ Row strE w' w.heap.size 9 v (proveP l lba).left ∧ Below w.heap.size w w' := by
  refine calls_by fun R HR => ?_
  have hsr := ((rightB_spec l).1 hr).2
  have HL := Lib.hid (And.intro hl (And.intro hlen hsr))
  have HCk := Lib.hid (fun w h => right_yes (lv := lv) hr w h hlen)
  have HPl := Lib.hid (place_yes hlb)
  have HFi := Lib.hid (fun w h => find_is hn hm lv w h hlen hsr)
  have HHs := Lib.hid (fun w h => hashes_any lv l w h hlen)
  have HV := Lib.hid (show proveP l lba = ⟨false, n, noLeaf, noLeaf, [], []⟩ by
    simp [proveP, hn, hm, here_none (show l.length ≤ n by omega), (show ¬ n < l.length by omega), (show ¬ 0 < n by omega)])
  obtain ⟨a, cap, rfl, hcap, -⟩ := hl.shape
  have hnl : n ≤ l.length := by rw [← hn]; exact ahead_le lba l
  clear hr hl hlb hm hn
  have hli : (l.length : Int) ≤ 1000000 := by omega
  have H1 := Lib.hid (And.intro (Below.refl w.heap.size w) (HL.out.1))
  obtain ⟨W1, hW1⟩ : ∃ W1, w.alloc (.cells #[.bool false, .int .i64 0, .int .i64 0, .string ⟨#[]⟩, .int .i64 0, .string ⟨#[]⟩, .slice none 0 0, .slice none 0 0] 48) = W1 := ⟨_, rfl⟩
  have hbW1 : Below w.heap.size w W1 := by rw [← hW1]; exact alloc_below w _
  have kW1 : W1.heap[w.heap.size]? = some (.cells #[.bool false, .int .i64 0, .int .i64 0, .string ⟨#[]⟩, .int .i64 0, .string ⟨#[]⟩, .slice none 0 0, .slice none 0 0] 48 (0, 0)) := by rw [← hW1]; exact alloc_new w _
  have H2 := Lib.hid (And.intro (H1.out.1.trans (hbW1.mono H1.out.1.size)) (And.intro (H1.out.2.below hbW1) (kW1)))
  clear hbW1 kW1
  go_enter Try.func29, Try.ntmps29
  go_wp2_with fail
  refine (HCk.out _ H2.out.2.1).mono ?_
  rintro en v1 ⟨rfl, hb⟩
  clear hW1
  have H3 := Lib.hid (And.intro (H2.out.1.trans (hb.mono H2.out.1.size)) (And.intro (H2.out.2.1.below hb) (blk_on hb H2.out.2.2)))
  clear hb
  go_wp2_with fail
  refine (HPl.out _).mono ?_
  rintro en v2 ⟨rfl, hw⟩
  rw [hw]
  clear hw
  go_wp2_with fail
  refine (HHs.out _ H3.out.2.1).mono ?_
  rintro en v3 ⟨tv, rfl, hrow, hb⟩
  obtain ⟨ta, tc, rfl, -⟩ := hrow.shape
  have H4 := Lib.hid (And.intro (H3.out.1.trans (hb.mono H3.out.1.size)) (And.intro (H3.out.2.1.below hb) (And.intro (blk_on hb H3.out.2.2) (hrow.rd))))
  clear hb
  clear hrow
  go_wp2_with fail
  refine (HFi.out _ H4.out.2.1).mono ?_
  rintro en v4 ⟨rfl, hb⟩
  have H5 := Lib.hid (And.intro (H4.out.1.trans (hb.mono H4.out.1.size)) (And.intro (H4.out.2.1.below hb) (And.intro (blk_on hb H4.out.2.2.1) (H4.out.2.2.2.below hb))))
  clear hb
  obtain ⟨pb, hpb⟩ : ∃ pb, v4.heap.size = pb := ⟨_, rfl⟩
  obtain ⟨P0, hP0⟩ : ∃ P0, v4.alloc (.cells #[.bool false, .int .i64 (n : Nat), .int .i64 0, .string ⟨#[]⟩, .int .i64 0, .string ⟨#[]⟩, .slice none 0 0, .slice none 0 0] 48) = P0 := ⟨_, rfl⟩
  have K0 := Lib.hid (show P0.heap[pb]? = some (.cells #[.bool false, .int .i64 (n : Nat), .int .i64 0, .string ⟨#[]⟩, .int .i64 0, .string ⟨#[]⟩, .slice none 0 0, .slice none 0 0] 48 (0, 0)) by rw [← hP0, ← hpb]; exact alloc_new v4 _)
  have B0 := Lib.hid (show Below pb v4 P0 by rw [← hP0, ← hpb]; exact alloc_below v4 _)
  have Z0 := Lib.hid (show pb < P0.heap.size from lt_of_block K0.out)
  have E0 := Lib.hid hP0
  clear hP0
  go_upto_region 7 with fail
  rw [E0.out]
  clear E0
  have hni : ¬ (n : Int) < (l.length : Int) := by omega
  go_upto_region 10 with fail
  have hn0 : ¬ (0 : Int) < (n : Int) := by omega
  go_upto_region 13 with fail
  obtain ⟨z0, z1, z2, z3, z4, z5, z6, z7⟩ := blk8 K0.out
  have KR := Lib.hid (blk_on (hpb ▸ B0.out) H5.out.2.2.1)
  obtain ⟨WR, hWR⟩ : ∃ W, P0.setRow w.heap.size #[.bool false, .int .i64 (n : Nat), .int .i64 0, .string ⟨#[]⟩, .int .i64 0, .string ⟨#[]⟩, .slice none 0 0, .slice none 0 0] = W := ⟨_, rfl⟩
  have KE := Lib.hid (show WR.heap[w.heap.size]? = some (.cells #[.bool false, .int .i64 (n : Nat), .int .i64 0, .string ⟨#[]⟩, .int .i64 0, .string ⟨#[]⟩, .slice none 0 0, .slice none 0 0] 48 (0, 0)) by rw [← hWR]; exact setRow_heap P0 _ _ _ _ _ KR.out)
  have BE := Lib.hid (show Below w.heap.size w WR by rw [← hWR]; exact (H5.out.1.trans ((hpb ▸ B0.out : Below v4.heap.size v4 P0).mono H5.out.1.size)).trans (row_under P0 _ _))
  have hlw := H5.out.1.size
  clear hlw
  go_wp2_with (refine wpList_store_blk rfl 48 (.tmp 4) (.tmp 68) rfl w.heap.size 0 8 rfl #[.bool false, .int .i64 0, .int .i64 0, .string ⟨#[]⟩, .int .i64 0, .string ⟨#[]⟩, .slice none 0 0, .slice none 0 0] #[.bool false, .int .i64 (n : Nat), .int .i64 0, .string ⟨#[]⟩, .int .i64 0, .string ⟨#[]⟩, .slice none 0 0, .slice none 0 0] #[.bool false, .int .i64 (n : Nat), .int .i64 0, .string ⟨#[]⟩, .int .i64 0, .string ⟨#[]⟩, .slice none 0 0, .slice none 0 0] rfl 48 KR.out rfl (Nat.le_refl 8) (by kernel_rfl) (prf_one _ _ _ _ _ _ _ _ _ _ _ _) (splice_all _ _ rfl) ?_; rw [hWR])
  clear hWR z0 z1 z2 z3 z4 z5 z6 z7
  obtain ⟨z0, z1, z2, z3, z4, z5, z6, z7⟩ := blk8 KE.out
  refine bodyPost_ret (v := .tuple #[.agg #[.bool false, .int .i64 (n : Nat), .int .i64 0, .string ⟨#[]⟩, .int .i64 0, .string ⟨#[]⟩, .slice none 0 0, .slice none 0 0], .int .i64 0]) (by simp [results, Try.results29, go_sem, z0, z1, z2, z3, z4, z5, z6, z7]) rfl ?_
  exact HR.out _ _ ⟨.slice none 0 0, .slice none 0 0, by rw [HV.out]; try rfl, by rw [HV.out]; exact Row.nil _ _ _, by rw [HV.out]; exact Row.nil _ _ _, BE.out⟩
end Go.Proofs.Ytdbabkkmdlkjaaa
/- The proof of a place: proof.Prove, where there is one: all ways. -/
namespace Go.Proofs.Ytdbabkkmdlkjaaa
open Go.RowKit Ks
set_option linter.unusedVariables false
set_option maxRecDepth 100000 in
set_option maxHeartbeats 16000000 in
theorem prove_mid (lv : Value) (l : List LeafT) (lba : Int) (w : World) (hl : Rd leafE w lv l) (hlen : l.length ≤ 1000000) (hr : rightB l = true) (hlb : 0 ≤ lba ∧ lba < 4096) (n : Nat) (hn : aheadN lba l = n) (hm : metP l lba = false) (hnn : n < l.length) (x : LeafT) (hx : l[n]? = some x) (h0 : 0 < n) (hnm : n - 1 < l.length) (y : LeafT) (hy : l[n - 1]? = some y) :
    Calls Try.prog 29 #[lv, .int .i64 lba] w fun e w' => ∃ u v, e = .returned (.tuple #[prfV (proveP l lba) u v, .int .i64 0]) ∧ Row strE w' w.heap.size 9 u (proveP l lba).up ∧ Row strE w' w.heap.size 9 v (proveP l lba).left ∧ Below w.heap.size w w' := by
  refine calls_by fun R HR => ?_
  have hsr := ((rightB_spec l).1 hr).2
  have HL := Lib.hid (And.intro hl (And.intro hlen hsr))
  have HCk := Lib.hid (fun w h => right_yes (lv := lv) hr w h hlen)
  have HPl := Lib.hid (place_yes hlb)
  have HFi := Lib.hid (fun w h => find_is hn hm lv w h hlen hsr)
  have HHs := Lib.hid (fun w h => hashes_any lv l w h hlen)
  have HP1 := Lib.hid (fun v w h => path_at (l := l) (n := n) hnn v w h hlen)
  have HP2 := Lib.hid (fun v w h => path_at (l := l) (n := n - 1) hnm v w h hlen)
  obtain ⟨xl, xs⟩ := x
  obtain ⟨yl, ys⟩ := y
  have HV := Lib.hid (show proveP l lba = ⟨false, n, (xl, xs), (yl, ys), pathL (hashL l) n, pathL (hashL l) (n - 1)⟩ by
    simp [proveP, hn, hm, hnn, here_some hx, here_some hy, h0])
  obtain ⟨a, cap, rfl, hcap, -⟩ := hl.shape
  have hnl : n ≤ l.length := by rw [← hn]; exact ahead_le lba l
  clear hr hl hlb hm hn
  have hli : (l.length : Int) ≤ 1000000 := by omega
  have H1 := Lib.hid (And.intro (Below.refl w.heap.size w) (HL.out.1))
  obtain ⟨W1, hW1⟩ : ∃ W1, w.alloc (.cells #[.bool false, .int .i64 0, .int .i64 0, .string ⟨#[]⟩, .int .i64 0, .string ⟨#[]⟩, .slice none 0 0, .slice none 0 0] 48) = W1 := ⟨_, rfl⟩
  have hbW1 : Below w.heap.size w W1 := by rw [← hW1]; exact alloc_below w _
  have kW1 : W1.heap[w.heap.size]? = some (.cells #[.bool false, .int .i64 0, .int .i64 0, .string ⟨#[]⟩, .int .i64 0, .string ⟨#[]⟩, .slice none 0 0, .slice none 0 0] 48 (0, 0)) := by rw [← hW1]; exact alloc_new w _
  have H2 := Lib.hid (And.intro (H1.out.1.trans (hbW1.mono H1.out.1.size)) (And.intro (H1.out.2.below hbW1) (kW1)))
  clear hbW1 kW1
  go_enter Try.func29, Try.ntmps29
  go_wp2_with fail
  refine (HCk.out _ H2.out.2.1).mono ?_
  rintro en v1 ⟨rfl, hb⟩
  clear hW1
  have H3 := Lib.hid (And.intro (H2.out.1.trans (hb.mono H2.out.1.size)) (And.intro (H2.out.2.1.below hb) (blk_on hb H2.out.2.2)))
  clear hb
  go_wp2_with fail
  refine (HPl.out _).mono ?_
  rintro en v2 ⟨rfl, hw⟩
  rw [hw]
  clear hw
  go_wp2_with fail
  refine (HHs.out _ H3.out.2.1).mono ?_
  rintro en v3 ⟨tv, rfl, hrow, hb⟩
  obtain ⟨ta, tc, rfl, -⟩ := hrow.shape
  have H4 := Lib.hid (And.intro (H3.out.1.trans (hb.mono H3.out.1.size)) (And.intro (H3.out.2.1.below hb) (And.intro (blk_on hb H3.out.2.2) (hrow.rd))))
  clear hb
  clear hrow
  go_wp2_with fail
  refine (HFi.out _ H4.out.2.1).mono ?_
  rintro en v4 ⟨rfl, hb⟩
  have H5 := Lib.hid (And.intro (H4.out.1.trans (hb.mono H4.out.1.size)) (And.intro (H4.out.2.1.below hb) (And.intro (blk_on hb H4.out.2.2.1) (H4.out.2.2.2.below hb))))
  clear hb
  obtain ⟨pb, hpb⟩ : ∃ pb, v4.heap.size = pb := ⟨_, rfl⟩
  obtain ⟨P0, hP0⟩ : ∃ P0, v4.alloc (.cells #[.bool false, .int .i64 (n : Nat), .int .i64 0, .string ⟨#[]⟩, .int .i64 0, .string ⟨#[]⟩, .slice none 0 0, .slice none 0 0] 48) = P0 := ⟨_, rfl⟩
  have K0 := Lib.hid (show P0.heap[pb]? = some (.cells #[.bool false, .int .i64 (n : Nat), .int .i64 0, .string ⟨#[]⟩, .int .i64 0, .string ⟨#[]⟩, .slice none 0 0, .slice none 0 0] 48 (0, 0)) by rw [← hP0, ← hpb]; exact alloc_new v4 _)
  have B0 := Lib.hid (show Below pb v4 P0 by rw [← hP0, ← hpb]; exact alloc_below v4 _)
  have Z0 := Lib.hid (show pb < P0.heap.size from lt_of_block K0.out)
  have E0 := Lib.hid hP0
  clear hP0
  go_upto_region 7 with fail
  rw [E0.out]
  clear E0
  have hni : (n : Int) < (l.length : Int) := by omega
  obtain ⟨b, o, ha, hb0, dd⟩ := (H5.out.2.1.below (hpb ▸ B0.out)).at (n) _ hx
  subst ha
  have d0 : P0.cell? ⟨b, o + (n) * 2, none⟩ = some (.int .i64 xl) := dd 0 _ rfl
  have d1 : P0.cell? ⟨b, o + (n) * 2 + 1, none⟩ = some (.string xs) := dd 1 _ rfl
  clear dd hb0
  obtain ⟨P1, hP1⟩ : ∃ W, P0.setRow pb #[.bool false, .int .i64 (n : Nat), .int .i64 xl, .string xs, .int .i64 0, .string ⟨#[]⟩, .slice none 0 0, .slice none 0 0] = W := ⟨_, rfl⟩
  have K1 := Lib.hid (show P1.heap[pb]? = some (.cells #[.bool false, .int .i64 (n : Nat), .int .i64 xl, .string xs, .int .i64 0, .string ⟨#[]⟩, .slice none 0 0, .slice none 0 0] 48 (0, 0)) by rw [← hP1]; exact setRow_heap P0 pb _ _ _ _ K0.out)
  have B1 := Lib.hid (show Below pb v4 P1 by rw [← hP1]; exact B0.out.trans (row_under P0 pb _))
  go_wp2_with (refine wpList_store_blk rfl 45 (.tmp 40) (.tmp 39) rfl pb 2 2 rfl #[.bool false, .int .i64 (n : Nat), .int .i64 0, .string ⟨#[]⟩, .int .i64 0, .string ⟨#[]⟩, .slice none 0 0, .slice none 0 0] #[.int .i64 xl, .string xs] #[.bool false, .int .i64 (n : Nat), .int .i64 xl, .string xs, .int .i64 0, .string ⟨#[]⟩, .slice none 0 0, .slice none 0 0] rfl 48 K0.out rfl (show 2 + 2 ≤ 8 by decide) (by kernel_rfl) (leaf_one _ _) rfl ?_; rw [hP1])
  clear hP1 d0 d1
  refine (HP1.out _ _ (H5.out.2.2.2.below (hpb ▸ B1.out))).mono ?_
  rintro en q1 ⟨uv, rfl, hrow, hb⟩
  obtain ⟨ua, uc, rfl, -⟩ := hrow.shape
  have K2 := Lib.hid (blk_on hb K1.out)
  have B2 := Lib.hid (B1.out.trans (hb.mono (Nat.le_of_lt (lt_of_block K1.out))))
  have Ru2 := Lib.hid hrow
  have Zu := Lib.hid (show pb < P1.heap.size from lt_of_block K1.out)
  clear hb hrow
  have c6 : q1.cell? ⟨pb, 6, none⟩ = some (.slice none 0 0) := (blk8 K2.out).2.2.2.2.2.2.1
  have f6 : q1.frozen? ⟨pb, 6, none⟩ = false := frozen_of_row q1 pb _ _ _ K2.out
  obtain ⟨P3, hP3⟩ : ∃ W, q1.setCell ⟨pb, 6, none⟩ (.slice ua (pathL (hashL l) n).length uc) = W := ⟨_, rfl⟩
  have K3 := Lib.hid (show P3.heap[pb]? = some (.cells #[.bool false, .int .i64 (n : Nat), .int .i64 xl, .string xs, .int .i64 0, .string ⟨#[]⟩, .slice ua (pathL (hashL l) n).length uc, .slice none 0 0] 48 (0, 0)) by rw [← hP3]; exact set8_6 _ K2.out)
  have B3 := Lib.hid (show Below pb v4 P3 by rw [← hP3]; exact B2.out.trans (cell_under q1 pb _ _))
  have Ru3 := Lib.hid (show Row strE P3 P1.heap.size 9 (.slice ua (pathL (hashL l) n).length uc) (pathL (hashL l) n) from by rw [← hP3]; exact Ru2.out.past Zu.out (fun k h => set_ne _ h))
  go_upto_region 10 with fail
  try rw [hP3]
  clear hP3 c6 f6
  have hn0 : (0 : Int) < (n : Int) := by omega
  have hn1 : (n : Int) - 1 = ((n - 1 : Nat) : Int) := by omega
  have hn2 : wrap64 ((n : Int) - 1) = ((n - 1 : Nat) : Int) := by rw [hn1]; unfold wrap64; omega
  have hn3 : ((n - 1 : Nat) : Int) < (l.length : Int) := by omega
  obtain ⟨b, o, ha, hb0, dd⟩ := (H5.out.2.1.below (hpb ▸ B3.out)).at (n - 1) _ hy
  cases ha
  have d0 : P3.cell? ⟨b, o + (n - 1) * 2, none⟩ = some (.int .i64 yl) := dd 0 _ rfl
  have d1 : P3.cell? ⟨b, o + (n - 1) * 2 + 1, none⟩ = some (.string ys) := dd 1 _ rfl
  clear dd hb0
  obtain ⟨P4, hP4⟩ : ∃ W, P3.setRow pb #[.bool false, .int .i64 (n : Nat), .int .i64 xl, .string xs, .int .i64 yl, .string ys, .slice ua (pathL (hashL l) n).length uc, .slice none 0 0] = W := ⟨_, rfl⟩
  have K4 := Lib.hid (show P4.heap[pb]? = some (.cells #[.bool false, .int .i64 (n : Nat), .int .i64 xl, .string xs, .int .i64 yl, .string ys, .slice ua (pathL (hashL l) n).length uc, .slice none 0 0] 48 (0, 0)) by rw [← hP4]; exact setRow_heap P3 pb _ _ _ _ K3.out)
  have B4 := Lib.hid (show Below pb v4 P4 by rw [← hP4]; exact B3.out.trans (row_under P3 pb _))
  have Ru4 := Lib.hid (show Row strE P4 P1.heap.size 9 (.slice ua (pathL (hashL l) n).length uc) (pathL (hashL l) n) from by rw [← hP4]; exact Ru3.out.past Zu.out (fun k h => setRow_other _ _ k _ h))
  go_wp2_with (refine wpList_store_blk rfl 45 (.tmp 59) (.tmp 58) rfl pb 4 2 rfl #[.bool false, .int .i64 (n : Nat), .int .i64 xl, .string xs, .int .i64 0, .string ⟨#[]⟩, .slice ua (pathL (hashL l) n).length uc, .slice none 0 0] #[.int .i64 yl, .string ys] #[.bool false, .int .i64 (n : Nat), .int .i64 xl, .string xs, .int .i64 yl, .string ys, .slice ua (pathL (hashL l) n).length uc, .slice none 0 0] rfl 48 K3.out rfl (show 4 + 2 ≤ 8 by decide) (by kernel_rfl) (leaf_one _ _) rfl ?_; rw [hP4])
  clear hP4 d0 d1
  refine (HP2.out _ _ (H5.out.2.2.2.below (hpb ▸ B4.out))).mono ?_
  rintro en q2 ⟨vv, rfl, hrow, hb⟩
  obtain ⟨va, vc, rfl, -⟩ := hrow.shape
  have K5 := Lib.hid (blk_on hb K4.out)
  have B5 := Lib.hid (B4.out.trans (hb.mono (Nat.le_of_lt (lt_of_block K4.out))))
  have Ru5 := Lib.hid (Ru4.out.below hb)
  have Rv5 := Lib.hid hrow
  have Zv := Lib.hid (show pb < P4.heap.size from lt_of_block K4.out)
  clear hb hrow
  have c7 : q2.cell? ⟨pb, 7, none⟩ = some (.slice none 0 0) := (blk8 K5.out).2.2.2.2.2.2.2
  have f7 : q2.frozen? ⟨pb, 7, none⟩ = false := frozen_of_row q2 pb _ _ _ K5.out
  obtain ⟨P6, hP6⟩ : ∃ W, q2.setCell ⟨pb, 7, none⟩ (.slice va (pathL (hashL l) (n - 1)).length vc) = W := ⟨_, rfl⟩
  have K6 := Lib.hid (show P6.heap[pb]? = some (.cells #[.bool false, .int .i64 (n : Nat), .int .i64 xl, .string xs, .int .i64 yl, .string ys, .slice ua (pathL (hashL l) n).length uc, .slice va (pathL (hashL l) (n - 1)).length vc] 48 (0, 0)) by rw [← hP6]; exact set8_7 _ K5.out)
  have B6 := Lib.hid (show Below pb v4 P6 by rw [← hP6]; exact B5.out.trans (cell_under q2 pb _ _))
  have Ru6 := Lib.hid (show Row strE P6 P1.heap.size 9 (.slice ua (pathL (hashL l) n).length uc) (pathL (hashL l) n) from by rw [← hP6]; exact Ru5.out.past Zu.out (fun k h => set_ne _ h))
  have Rv6 := Lib.hid (show Row strE P6 P4.heap.size 9 (.slice va (pathL (hashL l) (n - 1)).length vc) (pathL (hashL l) (n - 1)) from by rw [← hP6]; exact Rv5.out.past Zv.out (fun k h => set_ne _ h))
  go_upto_region 13 with fail
  try rw [hP6]
  clear hP6 c7 f7
  obtain ⟨z0, z1, z2, z3, z4, z5, z6, z7⟩ := blk8 K6.out
  have KR := Lib.hid (blk_on (hpb ▸ B6.out) H5.out.2.2.1)
  obtain ⟨WR, hWR⟩ : ∃ W, P6.setRow w.heap.size #[.bool false, .int .i64 (n : Nat), .int .i64 xl, .string xs, .int .i64 yl, .string ys, .slice ua (pathL (hashL l) n).length uc, .slice va (pathL (hashL l) (n - 1)).length vc] = W := ⟨_, rfl⟩
  have KE := Lib.hid (show WR.heap[w.heap.size]? = some (.cells #[.bool false, .int .i64 (n : Nat), .int .i64 xl, .string xs, .int .i64 yl, .string ys, .slice ua (pathL (hashL l) n).length uc, .slice va (pathL (hashL l) (n - 1)).length vc] 48 (0, 0)) by rw [← hWR]; exact setRow_heap P6 _ _ _ _ _ KR.out)
  have BE := Lib.hid (show Below w.heap.size w WR by rw [← hWR]; exact (H5.out.1.trans ((hpb ▸ B6.out : Below v4.heap.size v4 P6).mono H5.out.1.size)).trans (row_under P6 _ _))
  have hlw := H5.out.1.size
  have REu := Lib.hid (show Row strE WR w.heap.size 9 (.slice ua (pathL (hashL l) n).length uc) (pathL (hashL l) n) by rw [← hWR]; exact (Ru6.out.past (b := w.heap.size) (by have := Zu.out; omega) (fun k h => setRow_other _ _ k _ h)).down (by have := Zu.out; omega))
  have REv := Lib.hid (show Row strE WR w.heap.size 9 (.slice va (pathL (hashL l) (n - 1)).length vc) (pathL (hashL l) (n - 1)) by rw [← hWR]; exact (Rv6.out.past (b := w.heap.size) (by have := Zv.out; omega) (fun k h => setRow_other _ _ k _ h)).down (by have := Zv.out; omega))
  clear hlw
  go_wp2_with (refine wpList_store_blk rfl 48 (.tmp 4) (.tmp 68) rfl w.heap.size 0 8 rfl #[.bool false, .int .i64 0, .int .i64 0, .string ⟨#[]⟩, .int .i64 0, .string ⟨#[]⟩, .slice none 0 0, .slice none 0 0] #[.bool false, .int .i64 (n : Nat), .int .i64 xl, .string xs, .int .i64 yl, .string ys, .slice ua (pathL (hashL l) n).length uc, .slice va (pathL (hashL l) (n - 1)).length vc] #[.bool false, .int .i64 (n : Nat), .int .i64 xl, .string xs, .int .i64 yl, .string ys, .slice ua (pathL (hashL l) n).length uc, .slice va (pathL (hashL l) (n - 1)).length vc] rfl 48 KR.out rfl (Nat.le_refl 8) (by kernel_rfl) (prf_one _ _ _ _ _ _ _ _ _ _ _ _) (splice_all _ _ rfl) ?_; rw [hWR])
  clear hWR z0 z1 z2 z3 z4 z5 z6 z7
  obtain ⟨z0, z1, z2, z3, z4, z5, z6, z7⟩ := blk8 KE.out
  refine bodyPost_ret (v := .tuple #[.agg #[.bool false, .int .i64 (n : Nat), .int .i64 xl, .string xs, .int .i64 yl, .string ys, .slice ua (pathL (hashL l) n).length uc, .slice va (pathL (hashL l) (n - 1)).length vc], .int .i64 0]) (by simp [results, Try.results29, go_sem, z0, z1, z2, z3, z4, z5, z6, z7]) rfl ?_
  exact HR.out _ _ ⟨.slice ua (pathL (hashL l) n).length uc, .slice va (pathL (hashL l) (n - 1)).length vc, by rw [HV.out]; try rfl, by rw [HV.out]; exact REu.out, by rw [HV.out]; exact REv.out, BE.out⟩
set_option maxRecDepth 100000 in
set_option maxHeartbeats 16000000 in
theorem prove_low (lv : Value) (l : List LeafT) (lba : Int) (w : World) (hl : Rd leafE w lv l) (hlen : l.length ≤ 1000000) (hr : rightB l = true) (hlb : 0 ≤ lba ∧ lba < 4096) (n : Nat) (hn : aheadN lba l = n) (hm : metP l lba = false) (hnn : n < l.length) (x : LeafT) (hx : l[n]? = some x) (h0 : ¬ 0 < n) :
    Calls Try.prog 29 #[lv, .int .i64 lba] w fun e w' => ∃ u v, e = .returned (.tuple #[prfV (proveP l lba) u v, .int .i64 0]) ∧ Row strE w' w.heap.size 9 u (proveP l lba).up ∧ Row strE w' w.heap.size 9 v (proveP l lba).left ∧ Below w.heap.size w w' := by
  refine calls_by fun R HR => ?_
  have hsr := ((rightB_spec l).1 hr).2
  have HL := Lib.hid (And.intro hl (And.intro hlen hsr))
  have HCk := Lib.hid (fun w h => right_yes (lv := lv) hr w h hlen)
  have HPl := Lib.hid (place_yes hlb)
  have HFi := Lib.hid (fun w h => find_is hn hm lv w h hlen hsr)
  have HHs := Lib.hid (fun w h => hashes_any lv l w h hlen)
  have HP1 := Lib.hid (fun v w h => path_at (l := l) (n := n) hnn v w h hlen)
  obtain ⟨xl, xs⟩ := x
  have HV := Lib.hid (show proveP l lba = ⟨false, n, (xl, xs), noLeaf, pathL (hashL l) n, []⟩ by
    simp [proveP, hn, hm, hnn, here_some hx, (show ¬ 0 < n by omega)])
  obtain ⟨a, cap, rfl, hcap, -⟩ := hl.shape
  have hnl : n ≤ l.length := by rw [← hn]; exact ahead_le lba l
  clear hr hl hlb hm hn
  have hli : (l.length : Int) ≤ 1000000 := by omega
  have H1 := Lib.hid (And.intro (Below.refl w.heap.size w) (HL.out.1))
  obtain ⟨W1, hW1⟩ : ∃ W1, w.alloc (.cells #[.bool false, .int .i64 0, .int .i64 0, .string ⟨#[]⟩, .int .i64 0, .string ⟨#[]⟩, .slice none 0 0, .slice none 0 0] 48) = W1 := ⟨_, rfl⟩
  have hbW1 : Below w.heap.size w W1 := by rw [← hW1]; exact alloc_below w _
  have kW1 : W1.heap[w.heap.size]? = some (.cells #[.bool false, .int .i64 0, .int .i64 0, .string ⟨#[]⟩, .int .i64 0, .string ⟨#[]⟩, .slice none 0 0, .slice none 0 0] 48 (0, 0)) := by rw [← hW1]; exact alloc_new w _
  have H2 := Lib.hid (And.intro (H1.out.1.trans (hbW1.mono H1.out.1.size)) (And.intro (H1.out.2.below hbW1) (kW1)))
  clear hbW1 kW1
  go_enter Try.func29, Try.ntmps29
  go_wp2_with fail
  refine (HCk.out _ H2.out.2.1).mono ?_
  rintro en v1 ⟨rfl, hb⟩
  clear hW1
  have H3 := Lib.hid (And.intro (H2.out.1.trans (hb.mono H2.out.1.size)) (And.intro (H2.out.2.1.below hb) (blk_on hb H2.out.2.2)))
  clear hb
  go_wp2_with fail
  refine (HPl.out _).mono ?_
  rintro en v2 ⟨rfl, hw⟩
  rw [hw]
  clear hw
  go_wp2_with fail
  refine (HHs.out _ H3.out.2.1).mono ?_
  rintro en v3 ⟨tv, rfl, hrow, hb⟩
  obtain ⟨ta, tc, rfl, -⟩ := hrow.shape
  have H4 := Lib.hid (And.intro (H3.out.1.trans (hb.mono H3.out.1.size)) (And.intro (H3.out.2.1.below hb) (And.intro (blk_on hb H3.out.2.2) (hrow.rd))))
  clear hb
  clear hrow
  go_wp2_with fail
  refine (HFi.out _ H4.out.2.1).mono ?_
  rintro en v4 ⟨rfl, hb⟩
  have H5 := Lib.hid (And.intro (H4.out.1.trans (hb.mono H4.out.1.size)) (And.intro (H4.out.2.1.below hb) (And.intro (blk_on hb H4.out.2.2.1) (H4.out.2.2.2.below hb))))
  clear hb
  obtain ⟨pb, hpb⟩ : ∃ pb, v4.heap.size = pb := ⟨_, rfl⟩
  obtain ⟨P0, hP0⟩ : ∃ P0, v4.alloc (.cells #[.bool false, .int .i64 (n : Nat), .int .i64 0, .string ⟨#[]⟩, .int .i64 0, .string ⟨#[]⟩, .slice none 0 0, .slice none 0 0] 48) = P0 := ⟨_, rfl⟩
  have K0 := Lib.hid (show P0.heap[pb]? = some (.cells #[.bool false, .int .i64 (n : Nat), .int .i64 0, .string ⟨#[]⟩, .int .i64 0, .string ⟨#[]⟩, .slice none 0 0, .slice none 0 0] 48 (0, 0)) by rw [← hP0, ← hpb]; exact alloc_new v4 _)
  have B0 := Lib.hid (show Below pb v4 P0 by rw [← hP0, ← hpb]; exact alloc_below v4 _)
  have Z0 := Lib.hid (show pb < P0.heap.size from lt_of_block K0.out)
  have E0 := Lib.hid hP0
  clear hP0
  go_upto_region 7 with fail
  rw [E0.out]
  clear E0
  have hni : (n : Int) < (l.length : Int) := by omega
  obtain ⟨b, o, ha, hb0, dd⟩ := (H5.out.2.1.below (hpb ▸ B0.out)).at (n) _ hx
  subst ha
  have d0 : P0.cell? ⟨b, o + (n) * 2, none⟩ = some (.int .i64 xl) := dd 0 _ rfl
  have d1 : P0.cell? ⟨b, o + (n) * 2 + 1, none⟩ = some (.string xs) := dd 1 _ rfl
  clear dd hb0
  obtain ⟨P1, hP1⟩ : ∃ W, P0.setRow pb #[.bool false, .int .i64 (n : Nat), .int .i64 xl, .string xs, .int .i64 0, .string ⟨#[]⟩, .slice none 0 0, .slice none 0 0] = W := ⟨_, rfl⟩
  have K1 := Lib.hid (show P1.heap[pb]? = some (.cells #[.bool false, .int .i64 (n : Nat), .int .i64 xl, .string xs, .int .i64 0, .string ⟨#[]⟩, .slice none 0 0, .slice none 0 0] 48 (0, 0)) by rw [← hP1]; exact setRow_heap P0 pb _ _ _ _ K0.out)
  have B1 := Lib.hid (show Below pb v4 P1 by rw [← hP1]; exact B0.out.trans (row_under P0 pb _))
  go_wp2_with (refine wpList_store_blk rfl 45 (.tmp 40) (.tmp 39) rfl pb 2 2 rfl #[.bool false, .int .i64 (n : Nat), .int .i64 0, .string ⟨#[]⟩, .int .i64 0, .string ⟨#[]⟩, .slice none 0 0, .slice none 0 0] #[.int .i64 xl, .string xs] #[.bool false, .int .i64 (n : Nat), .int .i64 xl, .string xs, .int .i64 0, .string ⟨#[]⟩, .slice none 0 0, .slice none 0 0] rfl 48 K0.out rfl (show 2 + 2 ≤ 8 by decide) (by kernel_rfl) (leaf_one _ _) rfl ?_; rw [hP1])
  clear hP1 d0 d1
  refine (HP1.out _ _ (H5.out.2.2.2.below (hpb ▸ B1.out))).mono ?_
  rintro en q1 ⟨uv, rfl, hrow, hb⟩
  obtain ⟨ua, uc, rfl, -⟩ := hrow.shape
  have K2 := Lib.hid (blk_on hb K1.out)
  have B2 := Lib.hid (B1.out.trans (hb.mono (Nat.le_of_lt (lt_of_block K1.out))))
  have Ru2 := Lib.hid hrow
  have Zu := Lib.hid (show pb < P1.heap.size from lt_of_block K1.out)
  clear hb hrow
  have c6 : q1.cell? ⟨pb, 6, none⟩ = some (.slice none 0 0) := (blk8 K2.out).2.2.2.2.2.2.1
  have f6 : q1.frozen? ⟨pb, 6, none⟩ = false := frozen_of_row q1 pb _ _ _ K2.out
  obtain ⟨P3, hP3⟩ : ∃ W, q1.setCell ⟨pb, 6, none⟩ (.slice ua (pathL (hashL l) n).length uc) = W := ⟨_, rfl⟩
  have K3 := Lib.hid (show P3.heap[pb]? = some (.cells #[.bool false, .int .i64 (n : Nat), .int .i64 xl, .string xs, .int .i64 0, .string ⟨#[]⟩, .slice ua (pathL (hashL l) n).length uc, .slice none 0 0] 48 (0, 0)) by rw [← hP3]; exact set8_6 _ K2.out)
  have B3 := Lib.hid (show Below pb v4 P3 by rw [← hP3]; exact B2.out.trans (cell_under q1 pb _ _))
  have Ru3 := Lib.hid (show Row strE P3 P1.heap.size 9 (.slice ua (pathL (hashL l) n).length uc) (pathL (hashL l) n) from by rw [← hP3]; exact Ru2.out.past Zu.out (fun k h => set_ne _ h))
  go_upto_region 10 with fail
  try rw [hP3]
  clear hP3 c6 f6
  have hn0 : ¬ (0 : Int) < (n : Int) := by omega
  go_upto_region 13 with fail
  obtain ⟨z0, z1, z2, z3, z4, z5, z6, z7⟩ := blk8 K3.out
  have KR := Lib.hid (blk_on (hpb ▸ B3.out) H5.out.2.2.1)
  obtain ⟨WR, hWR⟩ : ∃ W, P3.setRow w.heap.size #[.bool false, .int .i64 (n : Nat), .int .i64 xl, .string xs, .int .i64 0, .string ⟨#[]⟩, .slice ua (pathL (hashL l) n).length uc, .slice none 0 0] = W := ⟨_, rfl⟩
  have KE := Lib.hid (show WR.heap[w.heap.size]? = some (.cells #[.bool false, .int .i64 (n : Nat), .int .i64 xl, .string xs, .int .i64 0, .string ⟨#[]⟩, .slice ua (pathL (hashL l) n).length uc, .slice none 0 0] 48 (0, 0)) by rw [← hWR]; exact setRow_heap P3 _ _ _ _ _ KR.out)
  have BE := Lib.hid (show Below w.heap.size w WR by rw [← hWR]; exact (H5.out.1.trans ((hpb ▸ B3.out : Below v4.heap.size v4 P3).mono H5.out.1.size)).trans (row_under P3 _ _))
  have hlw := H5.out.1.size
  have REu := Lib.hid (show Row strE WR w.heap.size 9 (.slice ua (pathL (hashL l) n).length uc) (pathL (hashL l) n) by rw [← hWR]; exact (Ru3.out.past (b := w.heap.size) (by have := Zu.out; omega) (fun k h => setRow_other _ _ k _ h)).down (by have := Zu.out; omega))
  clear hlw
  go_wp2_with (refine wpList_store_blk rfl 48 (.tmp 4) (.tmp 68) rfl w.heap.size 0 8 rfl #[.bool false, .int .i64 0, .int .i64 0, .string ⟨#[]⟩, .int .i64 0, .string ⟨#[]⟩, .slice none 0 0, .slice none 0 0] #[.bool false, .int .i64 (n : Nat), .int .i64 xl, .string xs, .int .i64 0, .string ⟨#[]⟩, .slice ua (pathL (hashL l) n).length uc, .slice none 0 0] #[.bool false, .int .i64 (n : Nat), .int .i64 xl, .string xs, .int .i64 0, .string ⟨#[]⟩, .slice ua (pathL (hashL l) n).length uc, .slice none 0 0] rfl 48 KR.out rfl (Nat.le_refl 8) (by kernel_rfl) (prf_one _ _ _ _ _ _ _ _ _ _ _ _) (splice_all _ _ rfl) ?_; rw [hWR])
  clear hWR z0 z1 z2 z3 z4 z5 z6 z7
  obtain ⟨z0, z1, z2, z3, z4, z5, z6, z7⟩ := blk8 KE.out
  refine bodyPost_ret (v := .tuple #[.agg #[.bool false, .int .i64 (n : Nat), .int .i64 xl, .string xs, .int .i64 0, .string ⟨#[]⟩, .slice ua (pathL (hashL l) n).length uc, .slice none 0 0], .int .i64 0]) (by simp [results, Try.results29, go_sem, z0, z1, z2, z3, z4, z5, z6, z7]) rfl ?_
  exact HR.out _ _ ⟨.slice ua (pathL (hashL l) n).length uc, .slice none 0 0, by rw [HV.out]; try rfl, by rw [HV.out]; exact REu.out, by rw [HV.out]; exact Row.nil _ _ _, BE.out⟩
set_option maxRecDepth 100000 in
set_option maxHeartbeats 16000000 in
theorem prove_top (lv : Value) (l : List LeafT) (lba : Int) (w : World) (hl : Rd leafE w lv l) (hlen : l.length ≤ 1000000) (hr : rightB l = true) (hlb : 0 ≤ lba ∧ lba < 4096) (n : Nat) (hn : aheadN lba l = n) (hm : metP l lba = false) (hnn : ¬ n < l.length) (h0 : 0 < n) (hnm : n - 1 < l.length) (y : LeafT) (hy : l[n - 1]? = some y) :
    Calls Try.prog 29 #[lv, .int .i64 lba] w fun e w' => ∃ u v, e = .returned (.tuple #[prfV (proveP l lba) u v, .int .i64 0]) ∧ Row strE w' w.heap.size 9 u (proveP l lba).up ∧ Row strE w' w.heap.size 9 v (proveP l lba).left ∧ Below w.heap.size w w' := by
  refine calls_by fun R HR => ?_
  have hsr := ((rightB_spec l).1 hr).2
  have HL := Lib.hid (And.intro hl (And.intro hlen hsr))
  have HCk := Lib.hid (fun w h => right_yes (lv := lv) hr w h hlen)
  have HPl := Lib.hid (place_yes hlb)
  have HFi := Lib.hid (fun w h => find_is hn hm lv w h hlen hsr)
  have HHs := Lib.hid (fun w h => hashes_any lv l w h hlen)
  have HP2 := Lib.hid (fun v w h => path_at (l := l) (n := n - 1) hnm v w h hlen)
  obtain ⟨yl, ys⟩ := y
  have HV := Lib.hid (show proveP l lba = ⟨false, n, noLeaf, (yl, ys), [], pathL (hashL l) (n - 1)⟩ by
    simp [proveP, hn, hm, here_none (show l.length ≤ n by omega), (show ¬ n < l.length by omega), here_some hy, h0])
  obtain ⟨a, cap, rfl, hcap, -⟩ := hl.shape
  have hnl : n ≤ l.length := by rw [← hn]; exact ahead_le lba l
  clear hr hl hlb hm hn
  have hli : (l.length : Int) ≤ 1000000 := by omega
  have H1 := Lib.hid (And.intro (Below.refl w.heap.size w) (HL.out.1))
  obtain ⟨W1, hW1⟩ : ∃ W1, w.alloc (.cells #[.bool false, .int .i64 0, .int .i64 0, .string ⟨#[]⟩, .int .i64 0, .string ⟨#[]⟩, .slice none 0 0, .slice none 0 0] 48) = W1 := ⟨_, rfl⟩
  have hbW1 : Below w.heap.size w W1 := by rw [← hW1]; exact alloc_below w _
  have kW1 : W1.heap[w.heap.size]? = some (.cells #[.bool false, .int .i64 0, .int .i64 0, .string ⟨#[]⟩, .int .i64 0, .string ⟨#[]⟩, .slice none 0 0, .slice none 0 0] 48 (0, 0)) := by rw [← hW1]; exact alloc_new w _
  have H2 := Lib.hid (And.intro (H1.out.1.trans (hbW1.mono H1.out.1.size)) (And.intro (H1.out.2.below hbW1) (kW1)))
  clear hbW1 kW1
  go_enter Try.func29, Try.ntmps29
  go_wp2_with fail
  refine (HCk.out _ H2.out.2.1).mono ?_
  rintro en v1 ⟨rfl, hb⟩
  clear hW1
  have H3 := Lib.hid (And.intro (H2.out.1.trans (hb.mono H2.out.1.size)) (And.intro (H2.out.2.1.below hb) (blk_on hb H2.out.2.2)))
  clear hb
  go_wp2_with fail
  refine (HPl.out _).mono ?_
  rintro en v2 ⟨rfl, hw⟩
  rw [hw]
  clear hw
  go_wp2_with fail
  refine (HHs.out _ H3.out.2.1).mono ?_
  rintro en v3 ⟨tv, rfl, hrow, hb⟩
  obtain ⟨ta, tc, rfl, -⟩ := hrow.shape
  have H4 := Lib.hid (And.intro (H3.out.1.trans (hb.mono H3.out.1.size)) (And.intro (H3.out.2.1.below hb) (And.intro (blk_on hb H3.out.2.2) (hrow.rd))))
  clear hb
  clear hrow
  go_wp2_with fail
  refine (HFi.out _ H4.out.2.1).mono ?_
  rintro en v4 ⟨rfl, hb⟩
  have H5 := Lib.hid (And.intro (H4.out.1.trans (hb.mono H4.out.1.size)) (And.intro (H4.out.2.1.below hb) (And.intro (blk_on hb H4.out.2.2.1) (H4.out.2.2.2.below hb))))
  clear hb
  obtain ⟨pb, hpb⟩ : ∃ pb, v4.heap.size = pb := ⟨_, rfl⟩
  obtain ⟨P0, hP0⟩ : ∃ P0, v4.alloc (.cells #[.bool false, .int .i64 (n : Nat), .int .i64 0, .string ⟨#[]⟩, .int .i64 0, .string ⟨#[]⟩, .slice none 0 0, .slice none 0 0] 48) = P0 := ⟨_, rfl⟩
  have K0 := Lib.hid (show P0.heap[pb]? = some (.cells #[.bool false, .int .i64 (n : Nat), .int .i64 0, .string ⟨#[]⟩, .int .i64 0, .string ⟨#[]⟩, .slice none 0 0, .slice none 0 0] 48 (0, 0)) by rw [← hP0, ← hpb]; exact alloc_new v4 _)
  have B0 := Lib.hid (show Below pb v4 P0 by rw [← hP0, ← hpb]; exact alloc_below v4 _)
  have Z0 := Lib.hid (show pb < P0.heap.size from lt_of_block K0.out)
  have E0 := Lib.hid hP0
  clear hP0
  go_upto_region 7 with fail
  rw [E0.out]
  clear E0
  have hni : ¬ (n : Int) < (l.length : Int) := by omega
  go_upto_region 10 with fail
  have hn0 : (0 : Int) < (n : Int) := by omega
  have hn1 : (n : Int) - 1 = ((n - 1 : Nat) : Int) := by omega
  have hn2 : wrap64 ((n : Int) - 1) = ((n - 1 : Nat) : Int) := by rw [hn1]; unfold wrap64; omega
  have hn3 : ((n - 1 : Nat) : Int) < (l.length : Int) := by omega
  obtain ⟨b, o, ha, hb0, dd⟩ := (H5.out.2.1.below (hpb ▸ B0.out)).at (n - 1) _ hy
  subst ha
  have d0 : P0.cell? ⟨b, o + (n - 1) * 2, none⟩ = some (.int .i64 yl) := dd 0 _ rfl
  have d1 : P0.cell? ⟨b, o + (n - 1) * 2 + 1, none⟩ = some (.string ys) := dd 1 _ rfl
  clear dd hb0
  obtain ⟨P1, hP1⟩ : ∃ W, P0.setRow pb #[.bool false, .int .i64 (n : Nat), .int .i64 0, .string ⟨#[]⟩, .int .i64 yl, .string ys, .slice none 0 0, .slice none 0 0] = W := ⟨_, rfl⟩
  have K1 := Lib.hid (show P1.heap[pb]? = some (.cells #[.bool false, .int .i64 (n : Nat), .int .i64 0, .string ⟨#[]⟩, .int .i64 yl, .string ys, .slice none 0 0, .slice none 0 0] 48 (0, 0)) by rw [← hP1]; exact setRow_heap P0 pb _ _ _ _ K0.out)
  have B1 := Lib.hid (show Below pb v4 P1 by rw [← hP1]; exact B0.out.trans (row_under P0 pb _))
  go_wp2_with (refine wpList_store_blk rfl 45 (.tmp 59) (.tmp 58) rfl pb 4 2 rfl #[.bool false, .int .i64 (n : Nat), .int .i64 0, .string ⟨#[]⟩, .int .i64 0, .string ⟨#[]⟩, .slice none 0 0, .slice none 0 0] #[.int .i64 yl, .string ys] #[.bool false, .int .i64 (n : Nat), .int .i64 0, .string ⟨#[]⟩, .int .i64 yl, .string ys, .slice none 0 0, .slice none 0 0] rfl 48 K0.out rfl (show 4 + 2 ≤ 8 by decide) (by kernel_rfl) (leaf_one _ _) rfl ?_; rw [hP1])
  clear hP1 d0 d1
  refine (HP2.out _ _ (H5.out.2.2.2.below (hpb ▸ B1.out))).mono ?_
  rintro en q2 ⟨vv, rfl, hrow, hb⟩
  obtain ⟨va, vc, rfl, -⟩ := hrow.shape
  have K2 := Lib.hid (blk_on hb K1.out)
  have B2 := Lib.hid (B1.out.trans (hb.mono (Nat.le_of_lt (lt_of_block K1.out))))
  have Rv2 := Lib.hid hrow
  have Zv := Lib.hid (show pb < P1.heap.size from lt_of_block K1.out)
  clear hb hrow
  have c7 : q2.cell? ⟨pb, 7, none⟩ = some (.slice none 0 0) := (blk8 K2.out).2.2.2.2.2.2.2
  have f7 : q2.frozen? ⟨pb, 7, none⟩ = false := frozen_of_row q2 pb _ _ _ K2.out
  obtain ⟨P3, hP3⟩ : ∃ W, q2.setCell ⟨pb, 7, none⟩ (.slice va (pathL (hashL l) (n - 1)).length vc) = W := ⟨_, rfl⟩
  have K3 := Lib.hid (show P3.heap[pb]? = some (.cells #[.bool false, .int .i64 (n : Nat), .int .i64 0, .string ⟨#[]⟩, .int .i64 yl, .string ys, .slice none 0 0, .slice va (pathL (hashL l) (n - 1)).length vc] 48 (0, 0)) by rw [← hP3]; exact set8_7 _ K2.out)
  have B3 := Lib.hid (show Below pb v4 P3 by rw [← hP3]; exact B2.out.trans (cell_under q2 pb _ _))
  have Rv3 := Lib.hid (show Row strE P3 P1.heap.size 9 (.slice va (pathL (hashL l) (n - 1)).length vc) (pathL (hashL l) (n - 1)) from by rw [← hP3]; exact Rv2.out.past Zv.out (fun k h => set_ne _ h))
  go_upto_region 13 with fail
  try rw [hP3]
  clear hP3 c7 f7
  obtain ⟨z0, z1, z2, z3, z4, z5, z6, z7⟩ := blk8 K3.out
  have KR := Lib.hid (blk_on (hpb ▸ B3.out) H5.out.2.2.1)
  obtain ⟨WR, hWR⟩ : ∃ W, P3.setRow w.heap.size #[.bool false, .int .i64 (n : Nat), .int .i64 0, .string ⟨#[]⟩, .int .i64 yl, .string ys, .slice none 0 0, .slice va (pathL (hashL l) (n - 1)).length vc] = W := ⟨_, rfl⟩
  have KE := Lib.hid (show WR.heap[w.heap.size]? = some (.cells #[.bool false, .int .i64 (n : Nat), .int .i64 0, .string ⟨#[]⟩, .int .i64 yl, .string ys, .slice none 0 0, .slice va (pathL (hashL l) (n - 1)).length vc] 48 (0, 0)) by rw [← hWR]; exact setRow_heap P3 _ _ _ _ _ KR.out)
  have BE := Lib.hid (show Below w.heap.size w WR by rw [← hWR]; exact (H5.out.1.trans ((hpb ▸ B3.out : Below v4.heap.size v4 P3).mono H5.out.1.size)).trans (row_under P3 _ _))
  have hlw := H5.out.1.size
  have REv := Lib.hid (show Row strE WR w.heap.size 9 (.slice va (pathL (hashL l) (n - 1)).length vc) (pathL (hashL l) (n - 1)) by rw [← hWR]; exact (Rv3.out.past (b := w.heap.size) (by have := Zv.out; omega) (fun k h => setRow_other _ _ k _ h)).down (by have := Zv.out; omega))
  clear hlw
  go_wp2_with (refine wpList_store_blk rfl 48 (.tmp 4) (.tmp 68) rfl w.heap.size 0 8 rfl #[.bool false, .int .i64 0, .int .i64 0, .string ⟨#[]⟩, .int .i64 0, .string ⟨#[]⟩, .slice none 0 0, .slice none 0 0] #[.bool false, .int .i64 (n : Nat), .int .i64 0, .string ⟨#[]⟩, .int .i64 yl, .string ys, .slice none 0 0, .slice va (pathL (hashL l) (n - 1)).length vc] #[.bool false, .int .i64 (n : Nat), .int .i64 0, .string ⟨#[]⟩, .int .i64 yl, .string ys, .slice none 0 0, .slice va (pathL (hashL l) (n - 1)).length vc] rfl 48 KR.out rfl (Nat.le_refl 8) (by kernel_rfl) (prf_one _ _ _ _ _ _ _ _ _ _ _ _) (splice_all _ _ rfl) ?_; rw [hWR])
  clear hWR z0 z1 z2 z3 z4 z5 z6 z7
  obtain ⟨z0, z1, z2, z3, z4, z5, z6, z7⟩ := blk8 KE.out
  refine bodyPost_ret (v := .tuple #[.agg #[.bool false, .int .i64 (n : Nat), .int .i64 0, .string ⟨#[]⟩, .int .i64 yl, .string ys, .slice none 0 0, .slice va (pathL (hashL l) (n - 1)).length vc], .int .i64 0]) (by simp [results, Try.results29, go_sem, z0, z1, z2, z3, z4, z5, z6, z7]) rfl ?_
  exact HR.out _ _ ⟨.slice none 0 0, .slice va (pathL (hashL l) (n - 1)).length vc, by rw [HV.out]; try rfl, by rw [HV.out]; exact Row.nil _ _ _, by rw [HV.out]; exact REv.out, BE.out⟩
theorem prove_rows (lv : Value) (l : List LeafT) (lba : Int) (w : World) (hl : Rd leafE w lv l) (hlen : l.length ≤ 1000000) (hr : rightB l = true) (hlb : 0 ≤ lba ∧ lba < 4096) :
    Calls Try.prog 29 #[lv, .int .i64 lba] w fun e w' => ∃ u v, e = .returned (.tuple #[prfV (proveP l lba) u v, .int .i64 0]) ∧ Row strE w' w.heap.size 9 u (proveP l lba).up ∧ Row strE w' w.heap.size 9 v (proveP l lba).left ∧ Below w.heap.size w w' := by
  obtain ⟨n, hn⟩ : ∃ n, aheadN lba l = n := ⟨_, rfl⟩
  have hle : n ≤ l.length := by rw [← hn]; exact ahead_le lba l
  by_cases h1 : n < l.length
  · have hx : l[n]? = some l[n] := List.getElem?_eq_getElem h1
    cases hm : metP l lba
    · by_cases h0 : 0 < n
      · exact prove_mid lv l lba w hl hlen hr hlb n hn hm h1 _ hx h0 (by omega) _ (List.getElem?_eq_getElem (show n - 1 < l.length by omega))
      · exact prove_low lv l lba w hl hlen hr hlb n hn hm h1 _ hx (by omega)
    · exact prove_met lv l lba w hl hlen hr hlb n hn hm h1 _ hx
  · have hm : metP l lba = false := by unfold metP; rw [hn, List.getElem?_eq_none (by omega)]
    by_cases h0 : 0 < n
    · exact prove_top lv l lba w hl hlen hr hlb n hn hm (by omega) h0 (by omega) _ (List.getElem?_eq_getElem (show n - 1 < l.length by omega))
    · exact prove_nil lv l lba w hl hlen hr hlb n hn hm (by omega) (by omega)
theorem prove_yes (lv : Value) (l : List LeafT) (lba : Int) (w : World) (hl : Rd leafE w lv l) (hlen : l.length ≤ 1000000) (hr : rightB l = true) (hlb : 0 ≤ lba ∧ lba < 4096) :
    Calls Try.prog 29 #[lv, .int .i64 lba] w fun e w' => ∃ u v, e = .returned (.tuple #[prfV (proveP l lba) u v, .int .i64 0]) ∧ Rd strE w' u (proveP l lba).up ∧ Rd strE w' v (proveP l lba).left ∧ Below w.heap.size w w' :=
  (prove_rows lv l lba w hl hlen hr hlb).mono fun e w' ⟨u, v, h1, h2, h3, h4⟩ => ⟨u, v, h1, h2.rd, h3.rd, h4⟩
end Go.Proofs.Ytdbabkkmdlkjaaa
/- The reference's trees of hashes: the half, a node, the root. -/
namespace Go.Proofs.Ytdbabkkmdlkjaaa
open Go.RowKit Ks
set_option linter.unusedVariables false
theorem rhalf_any (n : Nat) (w : World) (h2 : 2 ≤ n) (hn : n ≤ 1000000000) : Calls Try.prog 27 #[.int .i64 (n : Nat)] w fun e w' => e = .returned (.int .i64 (halfN n : Nat)) ∧ w' = w := by
  refine calls_by fun R HR => ?_
  have hni : (n : Int) ≤ 1000000000 := by omega
  have H2 := Lib.hid h2
  clear h2 hn
  go_enter Try.func27, Try.ntmps27
  go_wp2
  go_loop [3] (fun i => ∃ k : Nat, i = .int .i64 k ∧ Hid (∃ j, k = 2 ^ j) ∧ Hid (k < n)) (fun i => n - (intOf i).toNat)
  case atStart => exact ⟨1, rfl, Lib.hid ⟨0, rfl⟩, Lib.hid (by have := H2.out; omega)⟩
  case round =>
    obtain ⟨k, rfl, hj, hkn⟩ := hrel
    have hki : (k : Int) < n := by have := hkn.out; omega
    have hmul : (2 : Int) * (k : Int) = ((2 * k : Nat) : Int) := by omega
    by_cases hlt : 2 * k < n
    · have hlti : (2 : Int) * (k : Int) < (n : Int) := by omega
      have HL := Lib.hid hlt
      clear hlt hmul
      go_wp2
      go_round
      case rel => exact ⟨2 * k, by go_num, Lib.hid (by obtain ⟨j, e⟩ := hj.out; exact ⟨j + 1, by rw [Nat.pow_succ]; omega⟩), Lib.hid HL.out⟩
      case measure =>
        have h1 := HL.out
        have h3 : 0 < k := by obtain ⟨j, e⟩ := hj.out; rw [e]; exact Nat.two_pow_pos j
        simp [intOf]; omega
    · have hlti : ¬ (2 : Int) * (k : Int) < (n : Int) := by omega
      have HH := Lib.hid (show halfN n = k by
        obtain ⟨j, e⟩ := hj.out
        rw [e]
        exact half_of n j (by have := hkn.out; omega) (by rw [Nat.pow_succ]; omega))
      clear hlt hmul
      go_wp2
      exact HR.out _ _ ⟨by rw [HH.out], rfl⟩
theorem rnode_any (x y : ByteArray) (w : World) (hx : x.size ≤ 100000000) (hy : y.size ≤ 100000000) : Calls Try.prog 26 #[.string (ByteArray.mk #[1] ++ x ++ y)] w fun e w' => e = .returned (.string (nodeS x y)) ∧ Below w.heap.size w w' := by
  rw [inside_cat]
  exact rsumS_any (insideS x y) w (by rw [inside_size]; omega)
set_option maxHeartbeats 2000000 in
theorem rroot_any : ∀ (n : Nat) (l : List ByteArray) (lv : Value) (w : World), l.length = n → n ≤ 100000000 → Rd strE w lv l → wholeL l = true →
    Calls Try.prog 16 #[lv] w fun e w' => e = .returned (.string (rootL l)) ∧ Below w.heap.size w w' := by
  intro n
  induction n using Nat.strongRecOn with
  | ind n ih =>
  intro l lv w hn hb hr hw
  refine calls_by fun R HR => ?_
  obtain ⟨a, cap, rfl, hcap, -⟩ := hr.shape
  by_cases h0 : n = 0
  · have hl0 : l = [] := List.length_eq_zero_iff.1 (by omega)
    subst hl0
    clear hr ih
    have HZ := Lib.hid (show rootL [] = shaS [] from root_nil)
    go_enter Try.func16, Try.ntmps16
    go_wp2_with fail
    refine (rsumS_any ⟨#[]⟩ _ (by decide)).mono ?_
    rintro e w1 ⟨rfl, hb⟩
    have HB := Lib.hid hb
    clear hb
    go_wp2
    exact HR.out _ _ ⟨by rw [HZ.out]; rfl, HB.out⟩
  by_cases h1 : n = 1
  · obtain ⟨b, o, rfl, hb1, c1⟩ := hr.str 0 (by omega)
    rw [Nat.add_zero] at c1
    have HZ := Lib.hid (show rootL l = l[0] by match l, hn, h1 with | [x], _, _ => exact root_one x)
    have hl1 : ((l.length : Int) == 0) = false := by rw [beq_eq_false_iff_ne]; omega
    have hl2 : ((l.length : Int) == 1) = true := by rw [beq_iff_eq]; omega
    have hl3 : (0 : Int) < (l.length : Int) := by omega
    generalize l[0] = x at *
    clear hr ih hn h0 h1
    go_enter Try.func16, Try.ntmps16
    go_wp2
    exact HR.out _ _ ⟨by rw [HZ.out]; rfl, Below.refl _ _⟩
  · obtain ⟨b, o, rfl, hb1, -⟩ := hr.str 0 (by omega)
    have hl1 : ((l.length : Int) == 0) = false := by rw [beq_eq_false_iff_ne]; omega
    have hl2 : ((l.length : Int) == 1) = false := by rw [beq_eq_false_iff_ne]; omega
    have hh := half_lt l.length (by omega)
    have HH := Lib.hid (rhalf_any l.length w (by omega) (by omega))
    have hw' : ∀ s ∈ l, s.size = 32 := by simpa [wholeL] using hw
    have w1 : wholeL (l.take (halfN l.length)) = true := by simp only [wholeL, List.all_eq_true, beq_iff_eq]; exact fun s hs => hw' s (List.mem_of_mem_take hs)
    have w2 : wholeL (l.drop (halfN l.length)) = true := by simp only [wholeL, List.all_eq_true, beq_iff_eq]; exact fun s hs => hw' s (List.mem_of_mem_drop hs)
    have s1 := (path_whole _ (l.take (halfN l.length)) 0 rfl w1 (by rw [List.length_take]; omega)).2
    have s2 := (path_whole _ (l.drop (halfN l.length)) 0 rfl w2 (by rw [List.length_drop]; omega)).2
    have HZ := Lib.hid (show rootL l = nodeS (rootL (l.take (halfN l.length))) (rootL (l.drop (halfN l.length))) from root_two l (by omega))
    have hT := hr.take (k := halfN l.length) (by omega) cap (by omega)
    have hD := hr.drop (k := halfN l.length) (by omega) (some ⟨b, o + halfN l.length, none⟩) (fun _ => by simp [strE]) (by simp) (cap - halfN l.length) (by omega)
    have cT := Lib.hid (fun p => calls_after (p := p) (ih (l.take (halfN l.length)).length (by rw [List.length_take]; omega) _ _ (After w p) rfl (by rw [List.length_take]; omega) (hT.below (after_below w p)) w1))
    have cD := Lib.hid (fun p => calls_after (p := p) (ih (l.drop (halfN l.length)).length (by rw [List.length_drop]; omega) _ _ (After w p) rfl (by rw [List.length_drop]; omega) (hD.below (after_below w p)) w2))
    generalize rootL (l.take (halfN l.length)) = x at *
    generalize rootL (l.drop (halfN l.length)) = y at *
    have cS := Lib.hid (fun p => calls_after (p := p) (rnode_any x y (After w p) (by omega) (by omega)))
    have hcat1 : ¬ 9223372036854775807 < 1 + x.size := by omega
    have hcat2 : ¬ 9223372036854775807 < 1 + x.size + y.size := by omega
    have hli : (l.length : Int) ≤ 100000000 := by omega
    have hk1 : ((halfN l.length : Nat) : Int) < (l.length : Int) := by omega
    have hk0 : (0 : Int) < ((halfN l.length : Nat) : Int) := by omega
    have hk2 : ((halfN l.length : Nat) : Int) ≤ (cap : Int) := by omega
    have hk3 : ¬ cap = halfN l.length := by omega
    have hk4 : ((halfN l.length : Nat) : Int) ≤ (l.length : Int) := by omega
    have hk5 : (l.length : Int) ≤ (cap : Int) := by omega
    have hx0 : x.size ≤ 10000000000 := by omega
    have hy0 : y.size ≤ 10000000000 := by omega
    generalize halfN l.length = k at *
    clear hr ih hn h0 h1 hw hw' w1 w2 s1 s2 hT hD hh
    go_enter Try.func16, Try.ntmps16
    go_wp2_with fail
    refine HH.out.mono ?_
    rintro e w3 ⟨rfl, rfl⟩
    go_wp2_with fail
    refine wp_region_after (by kernel_rfl) (by kernel_rfl) ?_
    quiet_step (fail)
    quiet_step (fail)
    quiet_step (fail)
    quiet_step (exact cT.out _)
    quiet_step (fail)
    quiet_step (fail)
    quiet_step (fail)
    quiet_step (fail)
    quiet_step (exact cD.out _)
    quiet_step (fail)
    quiet_step (exact cS.out _)
    quiet_step (fail)
    refine wpQuiet_nil ?_
    rintro w2 ⟨q, rfl⟩
    have H2 := Lib.hid (after_below w3 q)
    generalize After w3 q = w2 at *
    clear cT cD cS
    go_wp2
    exact HR.out _ _ ⟨by rw [HZ.out] <;> rfl, H2.out⟩
end Go.Proofs.Ytdbabkkmdlkjaaa
