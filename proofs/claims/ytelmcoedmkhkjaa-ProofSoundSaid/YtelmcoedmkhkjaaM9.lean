/- Texts that the claim rests on, part 9: ProofTells, MerkleClash2. -/
import Derived.Deep.DeepCutAuto
import Derived.Test.YtelmcoedmkhkjaaM8
/- What a proof tells: of the program. -/
namespace Go.Proofs.Ytelmcoedmkhkjaa
open Go.RowKit Ks
set_option linter.unusedVariables false
set_option maxRecDepth 100000 in
set_option maxHeartbeats 4000000 in
theorem tells_bad (root : ByteArray) (count lba : Int) (p : PrfD) (u v : Value) (w : World) (hu : Rd strE w u p.up) (hv : Rd strE w v p.left) (hun : p.up.length ≤ 100000000) (hvn : p.left.length ≤ 100000000) (h : badAsk count lba) :
    Calls Try.prog 20 #[.string root, .int .i64 count, .int .i64 lba, prfV p u v] w fun e w' => e = .returned (.tuple #[.string ⟨#[]⟩, .bool false, .int .i64 2]) ∧ Below w.heap.size w w' := by
  refine calls_by fun R HR => ?_
  obtain ⟨fd, at9, ⟨hn, hs⟩, ⟨an, as9⟩, up, left⟩ := p
  obtain ⟨ua, uc, rfl, -⟩ := hu.shape
  obtain ⟨la, lc, rfl, -⟩ := hv.shape
  dsimp only [prfV, prfC]
  have HU := Lib.hid hu
  have HV := Lib.hid hv
  have hp := fun w => place_any lba w
  by_cases h1 : count < 0
  · clear hp hu hv hun hvn h
    have H1 := Lib.hid (And.intro (Below.refl w.heap.size w) (And.intro (HU.out) (HV.out)))
    obtain ⟨W1, hW1⟩ : ∃ W1, w.alloc (.cells #[.bool fd, .int .i64 at9, .int .i64 hn, .string hs, .int .i64 an, .string as9, .slice ua up.length uc, .slice la left.length lc] 29) = W1 := ⟨_, rfl⟩
    have hbW1 : Below w.heap.size w W1 := by rw [← hW1]; exact alloc_below w _
    have kW1 : W1.heap[w.heap.size]? = some (.cells #[.bool fd, .int .i64 at9, .int .i64 hn, .string hs, .int .i64 an, .string as9, .slice ua up.length uc, .slice la left.length lc] 29 (0, 0)) := by rw [← hW1]; exact alloc_new w _
    have H2 := Lib.hid (And.intro (H1.out.1.trans (hbW1.mono H1.out.1.size)) (And.intro (H1.out.2.1.below hbW1) (And.intro (H1.out.2.2.below hbW1) (kW1))))
    clear hbW1 kW1
    obtain ⟨W2, hW2⟩ : ∃ W2, W1.alloc (.cells #[.string root, .int .i64 count] 73) = W2 := ⟨_, rfl⟩
    have hbW2 : Below W1.heap.size W1 W2 := by rw [← hW2]; exact alloc_below W1 _
    have kW2 : W2.heap[W1.heap.size]? = some (.cells #[.string root, .int .i64 count] 73 (0, 0)) := by rw [← hW2]; exact alloc_new W1 _
    have H3 := Lib.hid (And.intro (H2.out.1.trans (hbW2.mono H2.out.1.size)) (And.intro (H2.out.2.1.below hbW2) (And.intro (H2.out.2.2.1.below hbW2) (And.intro (blk_on hbW2 H2.out.2.2.2) (kW2)))))
    clear hbW2 kW2
    go_enter Try.func20, Try.ntmps20
    go_wp2
    go_ret3
    exact HR.out _ _ ⟨rfl, H3.out.1⟩
  · by_cases h2 : 4096 < count
    · clear hp hu hv hun hvn h
      have H1 := Lib.hid (And.intro (Below.refl w.heap.size w) (And.intro (HU.out) (HV.out)))
      obtain ⟨W1, hW1⟩ : ∃ W1, w.alloc (.cells #[.bool fd, .int .i64 at9, .int .i64 hn, .string hs, .int .i64 an, .string as9, .slice ua up.length uc, .slice la left.length lc] 29) = W1 := ⟨_, rfl⟩
      have hbW1 : Below w.heap.size w W1 := by rw [← hW1]; exact alloc_below w _
      have kW1 : W1.heap[w.heap.size]? = some (.cells #[.bool fd, .int .i64 at9, .int .i64 hn, .string hs, .int .i64 an, .string as9, .slice ua up.length uc, .slice la left.length lc] 29 (0, 0)) := by rw [← hW1]; exact alloc_new w _
      have H2 := Lib.hid (And.intro (H1.out.1.trans (hbW1.mono H1.out.1.size)) (And.intro (H1.out.2.1.below hbW1) (And.intro (H1.out.2.2.below hbW1) (kW1))))
      clear hbW1 kW1
      obtain ⟨W2, hW2⟩ : ∃ W2, W1.alloc (.cells #[.string root, .int .i64 count] 73) = W2 := ⟨_, rfl⟩
      have hbW2 : Below W1.heap.size W1 W2 := by rw [← hW2]; exact alloc_below W1 _
      have kW2 : W2.heap[W1.heap.size]? = some (.cells #[.string root, .int .i64 count] 73 (0, 0)) := by rw [← hW2]; exact alloc_new W1 _
      have H3 := Lib.hid (And.intro (H2.out.1.trans (hbW2.mono H2.out.1.size)) (And.intro (H2.out.2.1.below hbW2) (And.intro (H2.out.2.2.1.below hbW2) (And.intro (blk_on hbW2 H2.out.2.2.2) (kW2)))))
      clear hbW2 kW2
      go_enter Try.func20, Try.ntmps20
      go_wp2
      go_ret3
      exact HR.out _ _ ⟨rfl, H3.out.1⟩
    · rw [decide_eq_false (fun q => by unfold badAsk at h; omega)] at hp
      have HP := Lib.hid hp
      clear hp hu hv hun hvn h
      have H1 := Lib.hid (And.intro (Below.refl w.heap.size w) (And.intro (HU.out) (HV.out)))
      obtain ⟨W1, hW1⟩ : ∃ W1, w.alloc (.cells #[.bool fd, .int .i64 at9, .int .i64 hn, .string hs, .int .i64 an, .string as9, .slice ua up.length uc, .slice la left.length lc] 29) = W1 := ⟨_, rfl⟩
      have hbW1 : Below w.heap.size w W1 := by rw [← hW1]; exact alloc_below w _
      have kW1 : W1.heap[w.heap.size]? = some (.cells #[.bool fd, .int .i64 at9, .int .i64 hn, .string hs, .int .i64 an, .string as9, .slice ua up.length uc, .slice la left.length lc] 29 (0, 0)) := by rw [← hW1]; exact alloc_new w _
      have H2 := Lib.hid (And.intro (H1.out.1.trans (hbW1.mono H1.out.1.size)) (And.intro (H1.out.2.1.below hbW1) (And.intro (H1.out.2.2.below hbW1) (kW1))))
      clear hbW1 kW1
      obtain ⟨W2, hW2⟩ : ∃ W2, W1.alloc (.cells #[.string root, .int .i64 count] 73) = W2 := ⟨_, rfl⟩
      have hbW2 : Below W1.heap.size W1 W2 := by rw [← hW2]; exact alloc_below W1 _
      have kW2 : W2.heap[W1.heap.size]? = some (.cells #[.string root, .int .i64 count] 73 (0, 0)) := by rw [← hW2]; exact alloc_new W1 _
      have H3 := Lib.hid (And.intro (H2.out.1.trans (hbW2.mono H2.out.1.size)) (And.intro (H2.out.2.1.below hbW2) (And.intro (H2.out.2.2.1.below hbW2) (And.intro (blk_on hbW2 H2.out.2.2.2) (kW2)))))
      clear hbW2 kW2
      go_enter Try.func20, Try.ntmps20
      go_wp2_with fail
      refine (HP.out _).mono ?_
      rintro en v1 ⟨rfl, hw⟩
      rw [hw]
      clear hw
      go_wp2
      go_ret3
      exact HR.out _ _ ⟨rfl, H3.out.1⟩
set_option maxRecDepth 100000 in
set_option maxHeartbeats 4000000 in
theorem tells_off (root : ByteArray) (count lba : Int) (p : PrfD) (u v : Value) (w : World) (hu : Rd strE w u p.up) (hv : Rd strE w v p.left) (hun : p.up.length ≤ 100000000) (hvn : p.left.length ≤ 100000000) (h : ¬ badAsk count lba) (ha : p.at_ < 0 ∨ count < p.at_) :
    Calls Try.prog 20 #[.string root, .int .i64 count, .int .i64 lba, prfV p u v] w fun e w' => e = .returned (.tuple #[.string ⟨#[]⟩, .bool false, .int .i64 17]) ∧ Below w.heap.size w w' := by
  refine calls_by fun R HR => ?_
  obtain ⟨fd, at9, ⟨hn, hs⟩, ⟨an, as9⟩, up, left⟩ := p
  obtain ⟨ua, uc, rfl, -⟩ := hu.shape
  obtain ⟨la, lc, rfl, -⟩ := hv.shape
  dsimp only [prfV, prfC]
  have HU := Lib.hid hu
  have HV := Lib.hid hv
  have hp := fun w => place_any lba w
  rw [decide_eq_true (by unfold badAsk at h; omega)] at hp
  have HP := Lib.hid hp
  have g1 : ¬ count < 0 := by unfold badAsk at h; omega
  have g2 : ¬ 4096 < count := by unfold badAsk at h; omega
  simp only at ha
  clear hp h
  clear hu hv hun hvn
  by_cases h1 : at9 < 0
  · clear ha
    have H1 := Lib.hid (And.intro (Below.refl w.heap.size w) (And.intro (HU.out) (HV.out)))
    obtain ⟨W1, hW1⟩ : ∃ W1, w.alloc (.cells #[.bool fd, .int .i64 at9, .int .i64 hn, .string hs, .int .i64 an, .string as9, .slice ua up.length uc, .slice la left.length lc] 29) = W1 := ⟨_, rfl⟩
    have hbW1 : Below w.heap.size w W1 := by rw [← hW1]; exact alloc_below w _
    have kW1 : W1.heap[w.heap.size]? = some (.cells #[.bool fd, .int .i64 at9, .int .i64 hn, .string hs, .int .i64 an, .string as9, .slice ua up.length uc, .slice la left.length lc] 29 (0, 0)) := by rw [← hW1]; exact alloc_new w _
    have H2 := Lib.hid (And.intro (H1.out.1.trans (hbW1.mono H1.out.1.size)) (And.intro (H1.out.2.1.below hbW1) (And.intro (H1.out.2.2.below hbW1) (kW1))))
    clear hbW1 kW1
    obtain ⟨W2, hW2⟩ : ∃ W2, W1.alloc (.cells #[.string root, .int .i64 count] 73) = W2 := ⟨_, rfl⟩
    have hbW2 : Below W1.heap.size W1 W2 := by rw [← hW2]; exact alloc_below W1 _
    have kW2 : W2.heap[W1.heap.size]? = some (.cells #[.string root, .int .i64 count] 73 (0, 0)) := by rw [← hW2]; exact alloc_new W1 _
    have H3 := Lib.hid (And.intro (H2.out.1.trans (hbW2.mono H2.out.1.size)) (And.intro (H2.out.2.1.below hbW2) (And.intro (H2.out.2.2.1.below hbW2) (And.intro (blk_on hbW2 H2.out.2.2.2) (kW2)))))
    clear hbW2 kW2
    obtain ⟨y0, y1, fzc0, fzc1⟩ := blk2 H3.out.2.2.2.2
    obtain ⟨z0, z1, z2, z3, z4, z5, z6, z7⟩ := blk8 H3.out.2.2.2.1
    go_enter Try.func20, Try.ntmps20
    go_wp2_with fail
    refine (HP.out _).mono ?_
    rintro en v1 ⟨rfl, hw⟩
    rw [hw]
    clear hw
    go_wp2
    go_ret3
    exact HR.out _ _ ⟨rfl, H3.out.1⟩
  · have h3 : count < at9 := by omega
    clear ha
    have H1 := Lib.hid (And.intro (Below.refl w.heap.size w) (And.intro (HU.out) (HV.out)))
    obtain ⟨W1, hW1⟩ : ∃ W1, w.alloc (.cells #[.bool fd, .int .i64 at9, .int .i64 hn, .string hs, .int .i64 an, .string as9, .slice ua up.length uc, .slice la left.length lc] 29) = W1 := ⟨_, rfl⟩
    have hbW1 : Below w.heap.size w W1 := by rw [← hW1]; exact alloc_below w _
    have kW1 : W1.heap[w.heap.size]? = some (.cells #[.bool fd, .int .i64 at9, .int .i64 hn, .string hs, .int .i64 an, .string as9, .slice ua up.length uc, .slice la left.length lc] 29 (0, 0)) := by rw [← hW1]; exact alloc_new w _
    have H2 := Lib.hid (And.intro (H1.out.1.trans (hbW1.mono H1.out.1.size)) (And.intro (H1.out.2.1.below hbW1) (And.intro (H1.out.2.2.below hbW1) (kW1))))
    clear hbW1 kW1
    obtain ⟨W2, hW2⟩ : ∃ W2, W1.alloc (.cells #[.string root, .int .i64 count] 73) = W2 := ⟨_, rfl⟩
    have hbW2 : Below W1.heap.size W1 W2 := by rw [← hW2]; exact alloc_below W1 _
    have kW2 : W2.heap[W1.heap.size]? = some (.cells #[.string root, .int .i64 count] 73 (0, 0)) := by rw [← hW2]; exact alloc_new W1 _
    have H3 := Lib.hid (And.intro (H2.out.1.trans (hbW2.mono H2.out.1.size)) (And.intro (H2.out.2.1.below hbW2) (And.intro (H2.out.2.2.1.below hbW2) (And.intro (blk_on hbW2 H2.out.2.2.2) (kW2)))))
    clear hbW2 kW2
    obtain ⟨y0, y1, fzc0, fzc1⟩ := blk2 H3.out.2.2.2.2
    obtain ⟨z0, z1, z2, z3, z4, z5, z6, z7⟩ := blk8 H3.out.2.2.2.1
    go_enter Try.func20, Try.ntmps20
    go_wp2_with fail
    refine (HP.out _).mono ?_
    rintro en v1 ⟨rfl, hw⟩
    rw [hw]
    clear hw
    go_wp2
    go_ret3
    exact HR.out _ _ ⟨rfl, H3.out.1⟩
set_option maxRecDepth 100000 in
set_option maxHeartbeats 4000000 in
theorem tells_met (root : ByteArray) (count lba : Int) (p : PrfD) (u v : Value) (w : World) (hu : Rd strE w u p.up) (hv : Rd strE w v p.left) (hun : p.up.length ≤ 100000000) (hvn : p.left.length ≤ 100000000) (h : ¬ badAsk count lba) (h1 : 0 ≤ p.at_) (h2 : p.at_ ≤ count) (hf : p.found = true) (hb : foundB root count lba p = true) :
    Calls Try.prog 20 #[.string root, .int .i64 count, .int .i64 lba, prfV p u v] w fun e w' => e = .returned (.tuple #[.string p.here.2, .bool true, .int .i64 0]) ∧ Below w.heap.size w w' := by
  refine calls_by fun R HR => ?_
  obtain ⟨fd, at9, ⟨hn, hs⟩, ⟨an, as9⟩, up, left⟩ := p
  obtain ⟨ua, uc, rfl, -⟩ := hu.shape
  obtain ⟨la, lc, rfl, -⟩ := hv.shape
  dsimp only [prfV, prfC]
  have HU := Lib.hid hu
  have HV := Lib.hid hv
  have hp := fun w => place_any lba w
  rw [decide_eq_true (by unfold badAsk at h; omega)] at hp
  have HP := Lib.hid hp
  have g1 : ¬ count < 0 := by unfold badAsk at h; omega
  have g2 : ¬ 4096 < count := by unfold badAsk at h; omega
  simp only at h1 h2 hf hb
  clear hp h
  subst hf
  have a1 : ¬ at9 < 0 := by omega
  have a2 : ¬ count < at9 := by omega
  have HC := Lib.hid (fun w (h : Rd strE w (.slice ua up.length uc) up) (h' : Rd strE w (.slice la left.length lc) left) => found_any root count lba (p := ⟨true, at9, (hn, hs), (an, as9), up, left⟩) _ _ w h h' hun hvn)
  rw [hb] at HC
  clear hu hv hun hvn h1 h2 hb
  have H1 := Lib.hid (And.intro (Below.refl w.heap.size w) (And.intro (HU.out) (HV.out)))
  obtain ⟨W1, hW1⟩ : ∃ W1, w.alloc (.cells #[.bool true, .int .i64 at9, .int .i64 hn, .string hs, .int .i64 an, .string as9, .slice ua up.length uc, .slice la left.length lc] 29) = W1 := ⟨_, rfl⟩
  have hbW1 : Below w.heap.size w W1 := by rw [← hW1]; exact alloc_below w _
  have kW1 : W1.heap[w.heap.size]? = some (.cells #[.bool true, .int .i64 at9, .int .i64 hn, .string hs, .int .i64 an, .string as9, .slice ua up.length uc, .slice la left.length lc] 29 (0, 0)) := by rw [← hW1]; exact alloc_new w _
  have H2 := Lib.hid (And.intro (H1.out.1.trans (hbW1.mono H1.out.1.size)) (And.intro (H1.out.2.1.below hbW1) (And.intro (H1.out.2.2.below hbW1) (kW1))))
  clear hbW1 kW1
  obtain ⟨W2, hW2⟩ : ∃ W2, W1.alloc (.cells #[.string root, .int .i64 count] 73) = W2 := ⟨_, rfl⟩
  have hbW2 : Below W1.heap.size W1 W2 := by rw [← hW2]; exact alloc_below W1 _
  have kW2 : W2.heap[W1.heap.size]? = some (.cells #[.string root, .int .i64 count] 73 (0, 0)) := by rw [← hW2]; exact alloc_new W1 _
  have H3 := Lib.hid (And.intro (H2.out.1.trans (hbW2.mono H2.out.1.size)) (And.intro (H2.out.2.1.below hbW2) (And.intro (H2.out.2.2.1.below hbW2) (And.intro (blk_on hbW2 H2.out.2.2.2) (kW2)))))
  clear hbW2 kW2
  obtain ⟨y0, y1, fzc0, fzc1⟩ := blk2 H3.out.2.2.2.2
  obtain ⟨z0, z1, z2, z3, z4, z5, z6, z7⟩ := blk8 H3.out.2.2.2.1
  go_enter Try.func20, Try.ntmps20
  go_wp2_with fail
  refine (HP.out _).mono ?_
  rintro en v1 ⟨rfl, hw⟩
  rw [hw]
  clear hw
  go_wp2_with fail
  refine (HC.out _ H3.out.2.1 H3.out.2.2.1).mono ?_
  rintro en v2 ⟨rfl, hb⟩
  clear hW1 hW2 y0 y1 z0 z1 z2 z3 z4 z5 z6 z7
  have H4 := Lib.hid (And.intro (H3.out.1.trans (hb.mono H3.out.1.size)) (And.intro (H3.out.2.1.below hb) (And.intro (H3.out.2.2.1.below hb) (And.intro (blk_on hb H3.out.2.2.2.1) (blk_on hb H3.out.2.2.2.2)))))
  clear hb
  obtain ⟨z0, z1, z2, z3, z4, z5, z6, z7⟩ := blk8 H4.out.2.2.2.1
  go_wp2
  go_ret3
  exact HR.out _ _ ⟨rfl, H4.out.1⟩
set_option maxRecDepth 100000 in
set_option maxHeartbeats 4000000 in
theorem tells_unmet (root : ByteArray) (count lba : Int) (p : PrfD) (u v : Value) (w : World) (hu : Rd strE w u p.up) (hv : Rd strE w v p.left) (hun : p.up.length ≤ 100000000) (hvn : p.left.length ≤ 100000000) (h : ¬ badAsk count lba) (h1 : 0 ≤ p.at_) (h2 : p.at_ ≤ count) (hf : p.found = true) (hb : foundB root count lba p = false) :
    Calls Try.prog 20 #[.string root, .int .i64 count, .int .i64 lba, prfV p u v] w fun e w' => e = .returned (.tuple #[.string ⟨#[]⟩, .bool false, .int .i64 17]) ∧ Below w.heap.size w w' := by
  refine calls_by fun R HR => ?_
  obtain ⟨fd, at9, ⟨hn, hs⟩, ⟨an, as9⟩, up, left⟩ := p
  obtain ⟨ua, uc, rfl, -⟩ := hu.shape
  obtain ⟨la, lc, rfl, -⟩ := hv.shape
  dsimp only [prfV, prfC]
  have HU := Lib.hid hu
  have HV := Lib.hid hv
  have hp := fun w => place_any lba w
  rw [decide_eq_true (by unfold badAsk at h; omega)] at hp
  have HP := Lib.hid hp
  have g1 : ¬ count < 0 := by unfold badAsk at h; omega
  have g2 : ¬ 4096 < count := by unfold badAsk at h; omega
  simp only at h1 h2 hf hb
  clear hp h
  subst hf
  have a1 : ¬ at9 < 0 := by omega
  have a2 : ¬ count < at9 := by omega
  have HC := Lib.hid (fun w (h : Rd strE w (.slice ua up.length uc) up) (h' : Rd strE w (.slice la left.length lc) left) => found_any root count lba (p := ⟨true, at9, (hn, hs), (an, as9), up, left⟩) _ _ w h h' hun hvn)
  rw [hb] at HC
  clear hu hv hun hvn h1 h2 hb
  have H1 := Lib.hid (And.intro (Below.refl w.heap.size w) (And.intro (HU.out) (HV.out)))
  obtain ⟨W1, hW1⟩ : ∃ W1, w.alloc (.cells #[.bool true, .int .i64 at9, .int .i64 hn, .string hs, .int .i64 an, .string as9, .slice ua up.length uc, .slice la left.length lc] 29) = W1 := ⟨_, rfl⟩
  have hbW1 : Below w.heap.size w W1 := by rw [← hW1]; exact alloc_below w _
  have kW1 : W1.heap[w.heap.size]? = some (.cells #[.bool true, .int .i64 at9, .int .i64 hn, .string hs, .int .i64 an, .string as9, .slice ua up.length uc, .slice la left.length lc] 29 (0, 0)) := by rw [← hW1]; exact alloc_new w _
  have H2 := Lib.hid (And.intro (H1.out.1.trans (hbW1.mono H1.out.1.size)) (And.intro (H1.out.2.1.below hbW1) (And.intro (H1.out.2.2.below hbW1) (kW1))))
  clear hbW1 kW1
  obtain ⟨W2, hW2⟩ : ∃ W2, W1.alloc (.cells #[.string root, .int .i64 count] 73) = W2 := ⟨_, rfl⟩
  have hbW2 : Below W1.heap.size W1 W2 := by rw [← hW2]; exact alloc_below W1 _
  have kW2 : W2.heap[W1.heap.size]? = some (.cells #[.string root, .int .i64 count] 73 (0, 0)) := by rw [← hW2]; exact alloc_new W1 _
  have H3 := Lib.hid (And.intro (H2.out.1.trans (hbW2.mono H2.out.1.size)) (And.intro (H2.out.2.1.below hbW2) (And.intro (H2.out.2.2.1.below hbW2) (And.intro (blk_on hbW2 H2.out.2.2.2) (kW2)))))
  clear hbW2 kW2
  obtain ⟨y0, y1, fzc0, fzc1⟩ := blk2 H3.out.2.2.2.2
  obtain ⟨z0, z1, z2, z3, z4, z5, z6, z7⟩ := blk8 H3.out.2.2.2.1
  go_enter Try.func20, Try.ntmps20
  go_wp2_with fail
  refine (HP.out _).mono ?_
  rintro en v1 ⟨rfl, hw⟩
  rw [hw]
  clear hw
  go_wp2_with fail
  refine (HC.out _ H3.out.2.1 H3.out.2.2.1).mono ?_
  rintro en v2 ⟨rfl, hb⟩
  clear hW1 hW2 y0 y1 z0 z1 z2 z3 z4 z5 z6 z7
  have H4 := Lib.hid (And.intro (H3.out.1.trans (hb.mono H3.out.1.size)) (And.intro (H3.out.2.1.below hb) (And.intro (H3.out.2.2.1.below hb) (And.intro (blk_on hb H3.out.2.2.2.1) (blk_on hb H3.out.2.2.2.2)))))
  clear hb
  obtain ⟨z0, z1, z2, z3, z4, z5, z6, z7⟩ := blk8 H4.out.2.2.2.1
  go_wp2
  go_ret3
  exact HR.out _ _ ⟨rfl, H4.out.1⟩
set_option maxRecDepth 100000 in
set_option maxHeartbeats 4000000 in
theorem tells_none (root : ByteArray) (count lba : Int) (p : PrfD) (u v : Value) (w : World) (hu : Rd strE w u p.up) (hv : Rd strE w v p.left) (hun : p.up.length ≤ 100000000) (hvn : p.left.length ≤ 100000000) (h : ¬ badAsk count lba) (h1 : 0 ≤ p.at_) (h2 : p.at_ ≤ count) (hf : p.found = false) (hb : noneB root count lba p = true) :
    Calls Try.prog 20 #[.string root, .int .i64 count, .int .i64 lba, prfV p u v] w fun e w' => e = .returned (.tuple #[.string ⟨#[]⟩, .bool false, .int .i64 0]) ∧ Below w.heap.size w w' := by
  refine calls_by fun R HR => ?_
  obtain ⟨fd, at9, ⟨hn, hs⟩, ⟨an, as9⟩, up, left⟩ := p
  obtain ⟨ua, uc, rfl, -⟩ := hu.shape
  obtain ⟨la, lc, rfl, -⟩ := hv.shape
  dsimp only [prfV, prfC]
  have HU := Lib.hid hu
  have HV := Lib.hid hv
  have hp := fun w => place_any lba w
  rw [decide_eq_true (by unfold badAsk at h; omega)] at hp
  have HP := Lib.hid hp
  have g1 : ¬ count < 0 := by unfold badAsk at h; omega
  have g2 : ¬ 4096 < count := by unfold badAsk at h; omega
  simp only at h1 h2 hf hb
  clear hp h
  subst hf
  have a1 : ¬ at9 < 0 := by omega
  have a2 : ¬ count < at9 := by omega
  have HC := Lib.hid (fun w (h : Rd strE w (.slice ua up.length uc) up) (h' : Rd strE w (.slice la left.length lc) left) => none_any root count lba (p := ⟨false, at9, (hn, hs), (an, as9), up, left⟩) _ _ w h h' hun hvn h1 h2 (by omega))
  rw [hb] at HC
  clear hu hv hun hvn h1 h2 hb
  have H1 := Lib.hid (And.intro (Below.refl w.heap.size w) (And.intro (HU.out) (HV.out)))
  obtain ⟨W1, hW1⟩ : ∃ W1, w.alloc (.cells #[.bool false, .int .i64 at9, .int .i64 hn, .string hs, .int .i64 an, .string as9, .slice ua up.length uc, .slice la left.length lc] 29) = W1 := ⟨_, rfl⟩
  have hbW1 : Below w.heap.size w W1 := by rw [← hW1]; exact alloc_below w _
  have kW1 : W1.heap[w.heap.size]? = some (.cells #[.bool false, .int .i64 at9, .int .i64 hn, .string hs, .int .i64 an, .string as9, .slice ua up.length uc, .slice la left.length lc] 29 (0, 0)) := by rw [← hW1]; exact alloc_new w _
  have H2 := Lib.hid (And.intro (H1.out.1.trans (hbW1.mono H1.out.1.size)) (And.intro (H1.out.2.1.below hbW1) (And.intro (H1.out.2.2.below hbW1) (kW1))))
  clear hbW1 kW1
  obtain ⟨W2, hW2⟩ : ∃ W2, W1.alloc (.cells #[.string root, .int .i64 count] 73) = W2 := ⟨_, rfl⟩
  have hbW2 : Below W1.heap.size W1 W2 := by rw [← hW2]; exact alloc_below W1 _
  have kW2 : W2.heap[W1.heap.size]? = some (.cells #[.string root, .int .i64 count] 73 (0, 0)) := by rw [← hW2]; exact alloc_new W1 _
  have H3 := Lib.hid (And.intro (H2.out.1.trans (hbW2.mono H2.out.1.size)) (And.intro (H2.out.2.1.below hbW2) (And.intro (H2.out.2.2.1.below hbW2) (And.intro (blk_on hbW2 H2.out.2.2.2) (kW2)))))
  clear hbW2 kW2
  obtain ⟨y0, y1, fzc0, fzc1⟩ := blk2 H3.out.2.2.2.2
  obtain ⟨z0, z1, z2, z3, z4, z5, z6, z7⟩ := blk8 H3.out.2.2.2.1
  go_enter Try.func20, Try.ntmps20
  go_wp2_with fail
  refine (HP.out _).mono ?_
  rintro en v1 ⟨rfl, hw⟩
  rw [hw]
  clear hw
  go_wp2_with fail
  refine (HC.out _ H3.out.2.1 H3.out.2.2.1).mono ?_
  rintro en v2 ⟨rfl, hb⟩
  clear hW1 hW2 y0 y1 z0 z1 z2 z3 z4 z5 z6 z7
  have H4 := Lib.hid (And.intro (H3.out.1.trans (hb.mono H3.out.1.size)) (And.intro (H3.out.2.1.below hb) (And.intro (H3.out.2.2.1.below hb) (And.intro (blk_on hb H3.out.2.2.2.1) (blk_on hb H3.out.2.2.2.2)))))
  clear hb
  go_wp2
  go_ret3
  exact HR.out _ _ ⟨rfl, H4.out.1⟩
set_option maxRecDepth 100000 in
set_option maxHeartbeats 4000000 in
theorem tells_some (root : ByteArray) (count lba : Int) (p : PrfD) (u v : Value) (w : World) (hu : Rd strE w u p.up) (hv : Rd strE w v p.left) (hun : p.up.length ≤ 100000000) (hvn : p.left.length ≤ 100000000) (h : ¬ badAsk count lba) (h1 : 0 ≤ p.at_) (h2 : p.at_ ≤ count) (hf : p.found = false) (hb : noneB root count lba p = false) :
    Calls Try.prog 20 #[.string root, .int .i64 count, .int .i64 lba, prfV p u v] w fun e w' => e = .returned (.tuple #[.string ⟨#[]⟩, .bool false, .int .i64 17]) ∧ Below w.heap.size w w' := by
  refine calls_by fun R HR => ?_
  obtain ⟨fd, at9, ⟨hn, hs⟩, ⟨an, as9⟩, up, left⟩ := p
  obtain ⟨ua, uc, rfl, -⟩ := hu.shape
  obtain ⟨la, lc, rfl, -⟩ := hv.shape
  dsimp only [prfV, prfC]
  have HU := Lib.hid hu
  have HV := Lib.hid hv
  have hp := fun w => place_any lba w
  rw [decide_eq_true (by unfold badAsk at h; omega)] at hp
  have HP := Lib.hid hp
  have g1 : ¬ count < 0 := by unfold badAsk at h; omega
  have g2 : ¬ 4096 < count := by unfold badAsk at h; omega
  simp only at h1 h2 hf hb
  clear hp h
  subst hf
  have a1 : ¬ at9 < 0 := by omega
  have a2 : ¬ count < at9 := by omega
  have HC := Lib.hid (fun w (h : Rd strE w (.slice ua up.length uc) up) (h' : Rd strE w (.slice la left.length lc) left) => none_any root count lba (p := ⟨false, at9, (hn, hs), (an, as9), up, left⟩) _ _ w h h' hun hvn h1 h2 (by omega))
  rw [hb] at HC
  clear hu hv hun hvn h1 h2 hb
  have H1 := Lib.hid (And.intro (Below.refl w.heap.size w) (And.intro (HU.out) (HV.out)))
  obtain ⟨W1, hW1⟩ : ∃ W1, w.alloc (.cells #[.bool false, .int .i64 at9, .int .i64 hn, .string hs, .int .i64 an, .string as9, .slice ua up.length uc, .slice la left.length lc] 29) = W1 := ⟨_, rfl⟩
  have hbW1 : Below w.heap.size w W1 := by rw [← hW1]; exact alloc_below w _
  have kW1 : W1.heap[w.heap.size]? = some (.cells #[.bool false, .int .i64 at9, .int .i64 hn, .string hs, .int .i64 an, .string as9, .slice ua up.length uc, .slice la left.length lc] 29 (0, 0)) := by rw [← hW1]; exact alloc_new w _
  have H2 := Lib.hid (And.intro (H1.out.1.trans (hbW1.mono H1.out.1.size)) (And.intro (H1.out.2.1.below hbW1) (And.intro (H1.out.2.2.below hbW1) (kW1))))
  clear hbW1 kW1
  obtain ⟨W2, hW2⟩ : ∃ W2, W1.alloc (.cells #[.string root, .int .i64 count] 73) = W2 := ⟨_, rfl⟩
  have hbW2 : Below W1.heap.size W1 W2 := by rw [← hW2]; exact alloc_below W1 _
  have kW2 : W2.heap[W1.heap.size]? = some (.cells #[.string root, .int .i64 count] 73 (0, 0)) := by rw [← hW2]; exact alloc_new W1 _
  have H3 := Lib.hid (And.intro (H2.out.1.trans (hbW2.mono H2.out.1.size)) (And.intro (H2.out.2.1.below hbW2) (And.intro (H2.out.2.2.1.below hbW2) (And.intro (blk_on hbW2 H2.out.2.2.2) (kW2)))))
  clear hbW2 kW2
  obtain ⟨y0, y1, fzc0, fzc1⟩ := blk2 H3.out.2.2.2.2
  obtain ⟨z0, z1, z2, z3, z4, z5, z6, z7⟩ := blk8 H3.out.2.2.2.1
  go_enter Try.func20, Try.ntmps20
  go_wp2_with fail
  refine (HP.out _).mono ?_
  rintro en v1 ⟨rfl, hw⟩
  rw [hw]
  clear hw
  go_wp2_with fail
  refine (HC.out _ H3.out.2.1 H3.out.2.2.1).mono ?_
  rintro en v2 ⟨rfl, hb⟩
  clear hW1 hW2 y0 y1 z0 z1 z2 z3 z4 z5 z6 z7
  have H4 := Lib.hid (And.intro (H3.out.1.trans (hb.mono H3.out.1.size)) (And.intro (H3.out.2.1.below hb) (And.intro (H3.out.2.2.1.below hb) (And.intro (blk_on hb H3.out.2.2.2.1) (blk_on hb H3.out.2.2.2.2)))))
  clear hb
  go_wp2
  go_ret3
  exact HR.out _ _ ⟨rfl, H4.out.1⟩
theorem tells_any (root : ByteArray) (count lba : Int) (p : PrfD) (u v : Value) (w : World) (hu : Rd strE w u p.up) (hv : Rd strE w v p.left) (hun : p.up.length ≤ 100000000) (hvn : p.left.length ≤ 100000000) :
    Calls Try.prog 20 #[.string root, .int .i64 count, .int .i64 lba, prfV p u v] w fun e w' => e = .returned (.tuple #[.string (tellsP root count lba p).1, .bool (tellsP root count lba p).2.1, .int .i64 (tellsP root count lba p).2.2]) ∧ Below w.heap.size w w' := by
  by_cases h1 : badAsk count lba
  · rw [tellsP, if_pos h1]; exact tells_bad root count lba p u v w hu hv hun hvn h1
  by_cases h2 : p.at_ < 0 ∨ count < p.at_
  · rw [tellsP, if_neg h1, if_pos h2]; exact tells_off root count lba p u v w hu hv hun hvn h1 h2
  by_cases h3 : p.found = true
  · by_cases h4 : foundB root count lba p = true
    · rw [tellsP, if_neg h1, if_neg h2, if_pos h3, if_pos h4]; exact tells_met root count lba p u v w hu hv hun hvn h1 (by omega) (by omega) h3 h4
    · rw [tellsP, if_neg h1, if_neg h2, if_pos h3, if_neg h4]; exact tells_unmet root count lba p u v w hu hv hun hvn h1 (by omega) (by omega) h3 (by simpa using h4)
  · by_cases h4 : noneB root count lba p = true
    · rw [tellsP, if_neg h1, if_neg h2, if_neg h3, if_pos h4]; exact tells_none root count lba p u v w hu hv hun hvn h1 (by omega) (by omega) (by simpa using h3) h4
    · rw [tellsP, if_neg h1, if_neg h2, if_neg h3, if_neg h4]; exact tells_some root count lba p u v w hu hv hun hvn h1 (by omega) (by omega) (by simpa using h3) (by simpa using h4)
end Go.Proofs.Ytelmcoedmkhkjaa
/- Trees of hashes: merkle.Clash. -/
namespace Go.Proofs.Ytelmcoedmkhkjaa
open Go.RowKit Ks
set_option linter.unusedVariables false
def clashN (e : Ending) : Prop := e = .returned (.tuple #[.string ⟨#[]⟩, .string ⟨#[]⟩, .bool false])
def clashY (e : Ending) : Prop := ∃ a b : ByteArray, e = .returned (.tuple #[.string a, .string b, .bool true]) ∧ Unlike a b
theorem Rd.stepAt {w : World} {a : Option Addr} {n c : Nat} {l : List StepG} (h : Rd stepE w (.slice a n c) l) (k : Nat) (hk : k < l.length) : ∃ b o, a = some ⟨b, o, none⟩ ∧ b < w.heap.size ∧ w.cell? ⟨b, o + k * 4, none⟩ = some (.int .i64 (l[k].i : Nat)) ∧ w.cell? ⟨b, o + k * 4 + 1, none⟩ = some (.int .i64 (l[k].n : Nat)) ∧ w.cell? ⟨b, o + k * 4 + 2, none⟩ = some (.string l[k].a) ∧ w.cell? ⟨b, o + k * 4 + 3, none⟩ = some (.string l[k].b) := by
  obtain ⟨b, o, h1, h2, h3⟩ := h.at k l[k] (List.getElem?_eq_getElem hk)
  exact ⟨b, o, h1, h2, h3 0 _ rfl, h3 1 _ rfl, h3 2 _ rfl, h3 3 _ rfl⟩
set_option maxRecDepth 100000 in
set_option maxHeartbeats 4000000 in
theorem clash_no1 (lv : Value) (l : List ByteArray) (i : Int) (x : ByteArray) (pv : Value) (ps : List ByteArray) (w : World) (hl : Rd strE w lv l) (hp : Rd strE w pv ps) (hln : l.length ≤ 1048576) (hpn : ps.length ≤ 100000000) (hw : wholeL l = false) :
    Calls Try.prog 58 #[lv, .int .i64 i, .string x, pv] w fun e w' => clashN e ∧ Below w.heap.size w w' := by
  refine calls_by fun R HR => ?_
  obtain ⟨a, cap, rfl, -⟩ := hl.shape
  obtain ⟨pa, pc, rfl, -⟩ := hp.shape
  have HRt := Lib.hid (root_any _ l w hl (by omega))
  have HD := Lib.hid (And.intro hl hp)
  have hv := (show rootV l = ⟨#[]⟩ ∧ wholeE l = 2 from ⟨by rw [rootV, hw]; rfl, by rw [wholeE, hw]; rfl⟩)
  simp only [hv] at HRt
  clear hl hp hln hpn hw hv
  have H1 := Lib.hid (And.intro (Below.refl w.heap.size w) (And.intro HD.out.1 HD.out.2))
  go_enter Try.func58, Try.ntmps58
  go_wp2_with fail
  refine (HRt.out).mono ?_
  rintro en v2 ⟨rfl, hb⟩
  have H2 := Lib.hid (And.intro (H1.out.1.trans (hb.mono H1.out.1.size)) (And.intro (H1.out.2.1.below hb) (H1.out.2.2.below hb)))
  clear hb
  go_wp2
  go_ret3
  exact HR.out _ _ ⟨rfl, H2.out.1⟩
set_option maxRecDepth 100000 in
set_option maxHeartbeats 4000000 in
theorem clash_no2 (lv : Value) (l : List ByteArray) (i : Int) (x : ByteArray) (pv : Value) (ps : List ByteArray) (w : World) (hl : Rd strE w lv l) (hp : Rd strE w pv ps) (hln : l.length ≤ 1048576) (hpn : ps.length ≤ 100000000) (hw : wholeL l = true) (ho : i < 0 ∨ (¬ i < 0 ∧ (l.length : Int) ≤ i)) :
    Calls Try.prog 58 #[lv, .int .i64 i, .string x, pv] w fun e w' => clashN e ∧ Below w.heap.size w w' := by
  refine calls_by fun R HR => ?_
  obtain ⟨a, cap, rfl, -⟩ := hl.shape
  obtain ⟨pa, pc, rfl, -⟩ := hp.shape
  have HRt := Lib.hid (root_any _ l w hl (by omega))
  have HD := Lib.hid (And.intro hl hp)
  have hv := (show rootV l = rootL l ∧ wholeE l = 0 from ⟨by rw [rootV, if_pos hw], by rw [wholeE, if_pos hw]⟩)
  simp only [hv] at HRt
  clear hl hp hln hpn hw hv
  rcases ho with h1 | ⟨h1, h2⟩
  all_goals
    have H1 := Lib.hid (And.intro (Below.refl w.heap.size w) (And.intro HD.out.1 HD.out.2))
    go_enter Try.func58, Try.ntmps58
    go_wp2_with fail
    refine (HRt.out).mono ?_
    rintro en v2 ⟨rfl, hb⟩
    have H2 := Lib.hid (And.intro (H1.out.1.trans (hb.mono H1.out.1.size)) (And.intro (H1.out.2.1.below hb) (H1.out.2.2.below hb)))
    clear hb
    go_wp2
    go_ret3
    exact HR.out _ _ ⟨rfl, H2.out.1⟩
set_option maxRecDepth 100000 in
set_option maxHeartbeats 4000000 in
theorem clash_no3 (lv : Value) (l : List ByteArray) (j : Nat) (x : ByteArray) (pv : Value) (ps : List ByteArray) (w : World) (hl : Rd strE w lv l) (hp : Rd strE w pv ps) (hln : l.length ≤ 1048576) (hpn : ps.length ≤ 100000000) (hw : wholeL l = true) (hj : j < l.length) (he : l[j] = x) :
    Calls Try.prog 58 #[lv, .int .i64 (j : Nat), .string x, pv] w fun e w' => clashN e ∧ Below w.heap.size w w' := by
  refine calls_by fun R HR => ?_
  obtain ⟨a, cap, rfl, -⟩ := hl.shape
  obtain ⟨pa, pc, rfl, -⟩ := hp.shape
  have HRt := Lib.hid (root_any _ l w hl (by omega))
  have HD := Lib.hid (And.intro hl hp)
  have hv := (show rootV l = rootL l ∧ wholeE l = 0 from ⟨by rw [rootV, if_pos hw], by rw [wholeE, if_pos hw]⟩)
  simp only [hv] at HRt
  have h1 : ¬ (j : Int) < 0 := by omega
  have h2 : ¬ (l.length : Int) ≤ (j : Int) := by omega
  have h2' : (j : Int) < (l.length : Int) := by omega
  obtain ⟨b, o, rfl, hb0, c0⟩ := hl.str j hj
  have HL1 := Lib.hid (fun (w1 : World) (h : Below w.heap.size w w1) => (h.cell (p := ⟨b, o + j, none⟩) hb0).trans c0)
  rw [he] at HL1
  clear hl hp hln hpn hw hv hj he c0 hb0
  have H1 := Lib.hid (And.intro (Below.refl w.heap.size w) (And.intro HD.out.1 HD.out.2))
  go_enter Try.func58, Try.ntmps58
  go_wp2_with fail
  refine (HRt.out).mono ?_
  rintro en v2 ⟨rfl, hb⟩
  have H2 := Lib.hid (And.intro (H1.out.1.trans (hb.mono H1.out.1.size)) (And.intro (H1.out.2.1.below hb) (H1.out.2.2.below hb)))
  have cc := HL1.out _ (H1.out.1.trans (hb.mono H1.out.1.size))
  clear hb
  go_wp2
  go_ret3
  exact HR.out _ _ ⟨rfl, H2.out.1⟩
set_option maxRecDepth 100000 in
set_option maxHeartbeats 4000000 in
theorem clash_no4 (lv : Value) (l : List ByteArray) (j : Nat) (x : ByteArray) (pv : Value) (ps : List ByteArray) (w : World) (hl : Rd strE w lv l) (hp : Rd strE w pv ps) (hln : l.length ≤ 1048576) (hpn : ps.length ≤ 100000000) (hw : wholeL l = true) (hj : j < l.length) (he : ¬ x = l[j]) (hc : isV (rootL l) l.length j x ps = false) :
    Calls Try.prog 58 #[lv, .int .i64 (j : Nat), .string x, pv] w fun e w' => clashN e ∧ Below w.heap.size w w' := by
  refine calls_by fun R HR => ?_
  obtain ⟨a, cap, rfl, -⟩ := hl.shape
  obtain ⟨pa, pc, rfl, -⟩ := hp.shape
  have HRt := Lib.hid (root_any _ l w hl (by omega))
  have HD := Lib.hid (And.intro hl hp)
  have hv := (show rootV l = rootL l ∧ wholeE l = 0 from ⟨by rw [rootV, if_pos hw], by rw [wholeE, if_pos hw]⟩)
  simp only [hv] at HRt
  have HC := Lib.hid (fun w1 (h : Rd strE w1 (.slice pa ps.length pc) ps) => check_any (rootL l) l.length j x ps _ w1 hpn h)
  simp only [hc] at HC
  have h1 : ¬ (j : Int) < 0 := by omega
  have h2 : ¬ (l.length : Int) ≤ (j : Int) := by omega
  have h2' : (j : Int) < (l.length : Int) := by omega
  obtain ⟨b, o, rfl, hb0, c0⟩ := hl.str j hj
  have HL1 := Lib.hid (fun (w1 : World) (h : Below w.heap.size w w1) => (h.cell (p := ⟨b, o + j, none⟩) hb0).trans c0)
  have hne := text_ne he
  generalize l[j] = y at *
  generalize rootL l = Z at *
  clear hl hp hln hpn hw hv hj he c0 hb0 hc
  have H1 := Lib.hid (And.intro (Below.refl w.heap.size w) (And.intro HD.out.1 HD.out.2))
  go_enter Try.func58, Try.ntmps58
  go_wp2_with fail
  refine (HRt.out).mono ?_
  rintro en v2 ⟨rfl, hb⟩
  have H2 := Lib.hid (And.intro (H1.out.1.trans (hb.mono H1.out.1.size)) (And.intro (H1.out.2.1.below hb) (H1.out.2.2.below hb)))
  have cc := HL1.out _ (H1.out.1.trans (hb.mono H1.out.1.size))
  clear hb
  go_wp2_with fail
  refine (HC.out _ H2.out.2.2).mono ?_
  rintro en v3 ⟨rfl, hb⟩
  have H3 := Lib.hid (And.intro (H2.out.1.trans (hb.mono H2.out.1.size)) (And.intro (H2.out.2.1.below hb) (H2.out.2.2.below hb)))
  clear cc
  clear hb
  go_wp2
  go_ret3
  exact HR.out _ _ ⟨rfl, H3.out.1⟩
set_option maxRecDepth 100000 in
set_option maxHeartbeats 4000000 in
theorem clash_yes (lv : Value) (l : List ByteArray) (j : Nat) (x : ByteArray) (pv : Value) (ps : List ByteArray) (w : World) (hl : Rd strE w lv l) (hp : Rd strE w pv ps) (hln : l.length ≤ 1048576) (hpn : ps.length ≤ 100000000) (hw : wholeL l = true) (hj : j < l.length) (he : ¬ x = l[j]) (hc : isV (rootL l) l.length j x ps = true) :
    Calls Try.prog 58 #[lv, .int .i64 (j : Nat), .string x, pv] w fun e w' => clashY e ∧ Below w.heap.size w w' := by
  refine calls_by fun R HR => ?_
  obtain ⟨a, cap, rfl, -⟩ := hl.shape
  obtain ⟨pa, pc, rfl, -⟩ := hp.shape
  have HRt := Lib.hid (root_any _ l w hl (by omega))
  have HD := Lib.hid (And.intro hl hp)
  have hv := (show rootV l = rootL l ∧ wholeE l = 0 from ⟨by rw [rootV, if_pos hw], by rw [wholeE, if_pos hw]⟩)
  simp only [hv] at HRt
  have hpi := (show pathE l (j : Int) = 0 ∧ pathV l (j : Int) = pathL l j from by
    have h : wholeL l = true ∧ (0 : Int) ≤ (j : Int) ∧ (j : Int) < l.length := ⟨hw, by omega, by omega⟩
    exact ⟨by rw [pathE, if_pos h], by rw [pathV, if_pos h]; rfl⟩)
  have HPt := Lib.hid (fun w (h : Rd strE w (.slice a l.length cap) l) => path_any _ l (j : Int) w h (by omega))
  simp only [hpi] at HPt
  have HC := Lib.hid (fun w1 (h : Rd strE w1 (.slice pa ps.length pc) ps) => check_any (rootL l) l.length j x ps _ w1 hpn h)
  simp only [hc] at HC
  obtain ⟨zx, zy, wp, wo, st, su, S, T, e1, e2, hlen, hcl, hun, hz1, hz2⟩ := clash_plain l j l[j] x ps hw (List.getElem?_eq_getElem hj) hln he hc
  have hst := climb_steps 20 _ _ _ _ _ e1
  have hpl : (pathL l j).length ≤ 20 := by
    rw [(path_leads l.length l j l[j] rfl (List.getElem?_eq_getElem hj)).2, ← sidesM_eq l.length 20 j hj hln]
    exact sidesM_le _ _ _
  have HCl := Lib.hid (fun w1 v (h : Rd strE w1 v (pathL l j)) => climb_any 20 l.length j l[j] (pathL l j) v w1 hj hln (by omega) (by omega) zy wo (by omega) h)
  have HCx := Lib.hid (fun w1 (h : Rd strE w1 (.slice pa ps.length pc) ps) => climb_any 20 l.length j x ps _ w1 hj hln (by omega) (by omega) zx wp hpn h)
  rw [e1] at HCl
  rw [e2] at HCx
  have h1 : ¬ (j : Int) < 0 := by omega
  have h2 : ¬ (l.length : Int) ≤ (j : Int) := by omega
  have h2' : (j : Int) < (l.length : Int) := by omega
  obtain ⟨b, o, rfl, hb0, c0⟩ := hl.str j hj
  have HL1 := Lib.hid (fun (w1 : World) (h : Below w.heap.size w w1) => (h.cell (p := ⟨b, o + j, none⟩) hb0).trans c0)
  have hne := text_ne he
  have HSL := Lib.hid (And.intro hlen (And.intro hcl (And.intro hun (And.intro hz1 hz2))))
  generalize l[j] = y at *
  generalize rootL l = Z at *
  generalize pathL l j = P at *
  clear hl hp hln hpn hw hv hj he c0 hb0 hc hpi zx zy wp wo e1 e2 hlen hcl hun hz1 hz2 hpl
  have H1 := Lib.hid (And.intro (Below.refl w.heap.size w) (And.intro HD.out.1 HD.out.2))
  go_enter Try.func58, Try.ntmps58
  go_wp2_with fail
  refine (HRt.out).mono ?_
  rintro en v2 ⟨rfl, hb⟩
  have H2 := Lib.hid (And.intro (H1.out.1.trans (hb.mono H1.out.1.size)) (And.intro (H1.out.2.1.below hb) (H1.out.2.2.below hb)))
  have cc := HL1.out _ (H1.out.1.trans (hb.mono H1.out.1.size))
  clear hb
  go_wp2_with fail
  refine (HC.out _ H2.out.2.2).mono ?_
  rintro en v3 ⟨rfl, hb⟩
  have H3 := Lib.hid (And.intro (H2.out.1.trans (hb.mono H2.out.1.size)) (And.intro (H2.out.2.1.below hb) (H2.out.2.2.below hb)))
  clear cc
  clear hb
  go_wp2_with fail
  refine (HPt.out _ H3.out.2.1).mono ?_
  rintro en v4 ⟨ov, rfl, hrow, hb⟩
  have H4 := Lib.hid (And.intro (H3.out.1.trans (hb.mono H3.out.1.size)) (And.intro (H3.out.2.1.below hb) (And.intro (H3.out.2.2.below hb) hrow.rd)))
  obtain ⟨oa, oc, rfl, -⟩ := hrow.shape
  clear hrow
  clear hb
  have cc := HL1.out _ H4.out.1
  go_wp2_with fail
  refine (HCl.out _ _ H4.out.2.2.2).mono ?_
  rintro en v5 ⟨⟨mv, rfl, hrow⟩, hb⟩
  have H5 := Lib.hid (And.intro (H4.out.1.trans (hb.mono H4.out.1.size)) (And.intro (H4.out.2.1.below hb) (And.intro (H4.out.2.2.1.below hb) (And.intro (H4.out.2.2.2.below hb) hrow.rd))))
  obtain ⟨ma, mc, rfl, -⟩ := hrow.shape
  clear hrow cc
  clear hb
  go_wp2_with fail
  refine (HCx.out _ H5.out.2.2.1).mono ?_
  rintro en v6 ⟨⟨tv, rfl, hrow⟩, hb⟩
  have H6 := Lib.hid (And.intro (H5.out.1.trans (hb.mono H5.out.1.size)) (And.intro (H5.out.2.1.below hb) (And.intro (H5.out.2.2.1.below hb) (And.intro (H5.out.2.2.2.1.below hb) (And.intro (H5.out.2.2.2.2.below hb) hrow.rd)))))
  obtain ⟨ta, tc, rfl, -⟩ := hrow.shape
  clear hrow
  clear hb
  obtain ⟨N, hN⟩ : ∃ N, st.length = N := ⟨_, rfl⟩
  have HM := Lib.hid (And.intro H6.out.1 (And.intro H6.out.2.2.2.2.1 H6.out.2.2.2.2.2))
  have HSN := Lib.hid (And.intro hN (HSL.out.1.symm.trans hN))
  rw [hN, HSL.out.1.symm.trans hN]
  have hNb : (N : Int) ≤ 20 := by omega
  clear hst
  clear hN HD H1 H2 H3 H4 H5 H6
  go_wp2_with fail
  go_loopw [90] (fun c wr => ∃ k : Nat, k ≤ N ∧ c = .int .i64 k ∧ Hid (clashL (st.drop k) (su.drop k) = some (S, T) ∧ Below w.heap.size w wr ∧ Rd stepE wr (.slice ma N mc) st ∧ Rd stepE wr (.slice ta N tc) su)) (fun c _ => N - (intOf c).toNat)
  case atStart => exact ⟨0, by omega, rfl, Lib.hid ⟨HSL.out.2.1, HM.out.1, by have := HM.out.2.1; rw [HSN.out.1] at this; exact this, by have := HM.out.2.2; rw [HSN.out.2] at this; exact this⟩⟩
  case round =>
    obtain ⟨k, hk, rfl, hN⟩ := hrel
    by_cases hlt : k < N
    · have hki : (k : Int) < (N : Int) := by omega
      have h1k : k < st.length := by rw [HSN.out.1]; exact hlt
      have h2k : k < su.length := by rw [HSN.out.2]; exact hlt
      have hcs := Lib.hid (clash_step st su k S T hN.out.1 h1k h2k)
      obtain ⟨bm, om, rfl, hbm, m0, m1, m2, m3⟩ := Rd.stepAt hN.out.2.2.1 k h1k
      obtain ⟨bt, ot, rfl, hbt, t0, t1, t2, t3⟩ := Rd.stepAt hN.out.2.2.2 k h2k
      have hcw := clash_ways st[k] su[k]
      have zs := HSL.out.2.2.2.1 st[k] (List.getElem_mem h1k)
      have zt := HSL.out.2.2.2.2 su[k] (List.getElem_mem h2k)
      generalize st[k] = ss at *
      generalize su[k] = tt at *
      obtain ⟨si, sn, sa, sb⟩ := ss
      obtain ⟨ti, tn, ta', tb⟩ := tt
      simp only at m0 m1 m2 m3 t0 t1 t2 t3 hcw zs zt
      obtain ⟨W1, hW1⟩ : ∃ W1, wr.alloc (.cells #[.int .i64 (si : Nat), .int .i64 (sn : Nat), .string sa, .string sb] 124) = W1 := ⟨_, rfl⟩
      have hb1 : Below wr.heap.size wr W1 := by rw [← hW1]; exact alloc_below wr _
      have k1 : W1.heap[wr.heap.size]? = some (.cells #[.int .i64 (si : Nat), .int .i64 (sn : Nat), .string sa, .string sb] 124 (0, 0)) := by rw [← hW1]; exact alloc_new wr _
      obtain ⟨W2, hW2⟩ : ∃ W2, W1.alloc (.cells #[.int .i64 (ti : Nat), .int .i64 (tn : Nat), .string ta', .string tb] 124) = W2 := ⟨_, rfl⟩
      have hb2 : Below W1.heap.size W1 W2 := by rw [← hW2]; exact alloc_below W1 _
      have k2 : W2.heap[W1.heap.size]? = some (.cells #[.int .i64 (ti : Nat), .int .i64 (tn : Nat), .string ta', .string tb] 124 (0, 0)) := by rw [← hW2]; exact alloc_new W1 _
      have HW := Lib.hid (And.intro hW1 hW2)
      have HK := Lib.hid (And.intro (hb1.trans (hb2.mono hb1.size)) (And.intro (blk_on hb2 k1) k2))
      have HT := Lib.hid (And.intro ((hb1.cell (p := ⟨bt, ot + k * 4, none⟩) hbt).trans t0) (And.intro ((hb1.cell (p := ⟨bt, ot + k * 4 + 1, none⟩) hbt).trans t1) (And.intro ((hb1.cell (p := ⟨bt, ot + k * 4 + 2, none⟩) hbt).trans t2) ((hb1.cell (p := ⟨bt, ot + k * 4 + 3, none⟩) hbt).trans t3))))
      have HNS := Lib.hid (fun w => node_any sa sb w (by omega) (by omega))
      have HNT := Lib.hid (fun w => node_any ta' tb w (by omega) (by omega))
      have HIS := Lib.hid (fun w => inside_any sa sb w (by omega) (by omega))
      have HIT := Lib.hid (fun w => inside_any ta' tb w (by omega) (by omega))
      have HCW := Lib.hid hcw
      clear hW1 hW2 hb1 k1 hb2 k2 t0 t1 t2 t3 zs zt hcw hbm hbt
      go_upto_region 10 with fail
      rw [HW.out.1]
      obtain ⟨t0, t1, t2, t3⟩ := HT.out
      clear m0 m1 m2 m3
      go_upto_region 11 with fail
      rw [HW.out.2]
      clear t0 t1 t2 t3 HT HW
      obtain ⟨p0, p1, p2, p3, -, -⟩ := blk4 HK.out.2.1
      obtain ⟨q0, q1, q2, q3, -, -⟩ := blk4 HK.out.2.2
      have r2 := fun p => after_cell p2 p
      have r3 := fun p => after_cell p3 p
      have u2 := fun p => after_cell q2 p
      have u3 := fun p => after_cell q3 p
      have cS := Lib.hid (fun p => calls_after (p := p) (HNS.out (After W2 p)))
      have cT := Lib.hid (fun p => calls_after (p := p) (HNT.out (After W2 p)))
      have hse : sa = ⟨#[]⟩ ∨ (0 < sa.size) := by
        by_cases h : sa.size = 0
        · exact .inl (str_none sa h)
        · exact .inr (by omega)
      rcases HCW.out with ⟨rfl, hx⟩ | ⟨h0, rfl, rfl, hx⟩ | ⟨h0, hne1, hx⟩ | ⟨h0, rfl, hne1, hx⟩
      · have HX := Lib.hid hx
        clear hx hse HCW
        refine wp_region_after (by kernel_rfl) (by kernel_rfl) ?_
        repeat (go_big_quiet_step (fail))
        refine wpQuiet_nil ?_
        rintro w5 ⟨q, rfl⟩
        have hb5 := after_below W2 q
        have H5 := Lib.hid (And.intro (HK.out.1.trans (hb5.mono HK.out.1.size)) (And.intro (blk_on hb5 HK.out.2.1) (blk_on hb5 HK.out.2.2)))
        generalize After W2 q = w5 at *
        clear cS cT r2 r3 u2 u3 p0 p1 p2 p3 q0 q1 q2 q3 hb5
        have HN := Lib.hid (show clashL (st.drop (k + 1)) (su.drop (k + 1)) = some (S, T) by
          rcases hcs.out with ⟨h, _⟩ | ⟨_, h⟩
          · rw [HX.out] at h; cases h
          · exact h)
        go_wp2_with fail
        go_roundw
        case rel => exact ⟨k + 1, by omega, by go_num, Lib.hid ⟨HN.out, hN.out.2.1.trans (H5.out.1.mono hN.out.2.1.size), hN.out.2.2.1.below H5.out.1, hN.out.2.2.2.below H5.out.1⟩⟩
        case measure => simp [intOf]; omega
      · have HX := Lib.hid hx
        have he := str_some sa (hse.resolve_left h0)
        have he1 := he.1
        have he2 := he.2
        clear hx h0 hse he HCW
        refine wp_region_after (by kernel_rfl) (by kernel_rfl) ?_
        repeat (go_big_quiet_step (fail))
        refine wpQuiet_nil ?_
        rintro w5 ⟨q, rfl⟩
        have hb5 := after_below W2 q
        have H5 := Lib.hid (And.intro (HK.out.1.trans (hb5.mono HK.out.1.size)) (And.intro (blk_on hb5 HK.out.2.1) (blk_on hb5 HK.out.2.2)))
        generalize After W2 q = w5 at *
        clear cS cT r2 r3 u2 u3 p0 p1 p2 p3 q0 q1 q2 q3 hb5
        have HN := Lib.hid (show clashL (st.drop (k + 1)) (su.drop (k + 1)) = some (S, T) by
          rcases hcs.out with ⟨h, _⟩ | ⟨_, h⟩
          · rw [HX.out] at h; cases h
          · exact h)
        go_wp2_with fail
        go_roundw
        case rel => exact ⟨k + 1, by omega, by go_num, Lib.hid ⟨HN.out, hN.out.2.1.trans (H5.out.1.mono hN.out.2.1.size), hN.out.2.2.1.below H5.out.1, hN.out.2.2.2.below H5.out.1⟩⟩
        case measure => simp [intOf]; omega
      · have hnb := text_ne hne1
        have he := str_some sa (hse.resolve_left h0)
        have he1 := he.1
        have he2 := he.2
        clear h0 hse he HCW hne1
        rcases hx with ⟨hq, hx⟩ | ⟨hq, hx⟩
        · have HX := Lib.hid hx
          rw [← hq] at cT
          generalize nodeS sa sb = Q at *
          clear hx hq
          refine wp_region_after (by kernel_rfl) (by kernel_rfl) ?_
          repeat (go_big_quiet_step (fail))
          go_big_quiet_step (exact cS.out _)
          repeat (go_big_quiet_step (fail))
          go_big_quiet_step (exact cT.out _)
          repeat (go_big_quiet_step (fail))
          refine wpQuiet_nil ?_
          rintro w5 ⟨q, rfl⟩
          have hb5 := after_below W2 q
          have H5 := Lib.hid (And.intro (HK.out.1.trans (hb5.mono HK.out.1.size)) (And.intro (blk_on hb5 HK.out.2.1) (blk_on hb5 HK.out.2.2)))
          generalize After W2 q = w5 at *
          clear cS cT r2 r3 u2 u3 p0 p1 p2 p3 q0 q1 q2 q3 hb5
          have HS := Lib.hid (show Unlike (insideS sa sb) (insideS ta' tb) by
            rcases hcs.out with ⟨_, h1, h2⟩ | ⟨h, _⟩
            · have := HSL.out.2.2.1; rw [h1, h2] at this; exact this
            · rw [HX.out] at h; cases h)
          obtain ⟨p0, p1, p2, p3, -, -⟩ := blk4 H5.out.2.1
          obtain ⟨q0, q1, q2, q3, -, -⟩ := blk4 H5.out.2.2
          have r2 := fun p => after_cell p2 p
          have r3 := fun p => after_cell p3 p
          have u2 := fun p => after_cell q2 p
          have u3 := fun p => after_cell q3 p
          have dS := Lib.hid (fun p => calls_after (p := p) ((HIS.out (After w5 p)).mono fun e w' ⟨h1, h2⟩ => ⟨h1, by rw [h2]; exact Below.refl _ _⟩))
          have dT := Lib.hid (fun p => calls_after (p := p) ((HIT.out (After w5 p)).mono fun e w' ⟨h1, h2⟩ => ⟨h1, by rw [h2]; exact Below.refl _ _⟩))
          go_wp2_with fail
          refine wp_region_after (by kernel_rfl) (by kernel_rfl) ?_
          repeat (go_big_quiet_step (fail))
          go_big_quiet_step (exact dS.out _)
          repeat (go_big_quiet_step (fail))
          go_big_quiet_step (exact dT.out _)
          repeat (go_big_quiet_step (fail))
          refine wpQuiet_nil ?_
          rintro w6 ⟨q, rfl⟩
          have hb6 := after_below w5 q
          have H6 := Lib.hid (hN.out.2.1.trans ((H5.out.1.trans (hb6.mono H5.out.1.size)).mono hN.out.2.1.size))
          generalize After w5 q = w6 at *
          clear dS dT r2 r3 u2 u3 p0 p1 p2 p3 q0 q1 q2 q3 hb6
          go_wp2
          go_ret3
          exact HR.out _ _ ⟨⟨_, _, rfl, HS.out⟩, H6.out⟩
        · have HX := Lib.hid hx
          have hqb := text_ne hq
          generalize nodeS sa sb = Q at *
          generalize nodeS ta' tb = Q2 at *
          clear hx hq
          refine wp_region_after (by kernel_rfl) (by kernel_rfl) ?_
          repeat (go_big_quiet_step (fail))
          go_big_quiet_step (exact cS.out _)
          repeat (go_big_quiet_step (fail))
          go_big_quiet_step (exact cT.out _)
          repeat (go_big_quiet_step (fail))
          refine wpQuiet_nil ?_
          rintro w5 ⟨q, rfl⟩
          have hb5 := after_below W2 q
          have H5 := Lib.hid (And.intro (HK.out.1.trans (hb5.mono HK.out.1.size)) (And.intro (blk_on hb5 HK.out.2.1) (blk_on hb5 HK.out.2.2)))
          generalize After W2 q = w5 at *
          clear cS cT r2 r3 u2 u3 p0 p1 p2 p3 q0 q1 q2 q3 hb5
          have HN := Lib.hid (show clashL (st.drop (k + 1)) (su.drop (k + 1)) = some (S, T) by
            rcases hcs.out with ⟨h, _⟩ | ⟨_, h⟩
            · rw [HX.out] at h; cases h
            · exact h)
          go_wp2_with fail
          go_roundw
          case rel => exact ⟨k + 1, by omega, by go_num, Lib.hid ⟨HN.out, hN.out.2.1.trans (H5.out.1.mono hN.out.2.1.size), hN.out.2.2.1.below H5.out.1, hN.out.2.2.2.below H5.out.1⟩⟩
          case measure => simp [intOf]; omega
      · have hnb := text_ne hne1
        have he := str_some sa (hse.resolve_left h0)
        have he1 := he.1
        have he2 := he.2
        clear h0 hse he HCW hne1
        rcases hx with ⟨hq, hx⟩ | ⟨hq, hx⟩
        · have HX := Lib.hid hx
          rw [← hq] at cT
          generalize nodeS sa sb = Q at *
          clear hx hq
          refine wp_region_after (by kernel_rfl) (by kernel_rfl) ?_
          repeat (go_big_quiet_step (fail))
          go_big_quiet_step (exact cS.out _)
          repeat (go_big_quiet_step (fail))
          go_big_quiet_step (exact cT.out _)
          repeat (go_big_quiet_step (fail))
          refine wpQuiet_nil ?_
          rintro w5 ⟨q, rfl⟩
          have hb5 := after_below W2 q
          have H5 := Lib.hid (And.intro (HK.out.1.trans (hb5.mono HK.out.1.size)) (And.intro (blk_on hb5 HK.out.2.1) (blk_on hb5 HK.out.2.2)))
          generalize After W2 q = w5 at *
          clear cS cT r2 r3 u2 u3 p0 p1 p2 p3 q0 q1 q2 q3 hb5
          have HS := Lib.hid (show Unlike (insideS sa sb) (insideS sa tb) by
            rcases hcs.out with ⟨_, h1, h2⟩ | ⟨h, _⟩
            · have := HSL.out.2.2.1; rw [h1, h2] at this; exact this
            · rw [HX.out] at h; cases h)
          obtain ⟨p0, p1, p2, p3, -, -⟩ := blk4 H5.out.2.1
          obtain ⟨q0, q1, q2, q3, -, -⟩ := blk4 H5.out.2.2
          have r2 := fun p => after_cell p2 p
          have r3 := fun p => after_cell p3 p
          have u2 := fun p => after_cell q2 p
          have u3 := fun p => after_cell q3 p
          have dS := Lib.hid (fun p => calls_after (p := p) ((HIS.out (After w5 p)).mono fun e w' ⟨h1, h2⟩ => ⟨h1, by rw [h2]; exact Below.refl _ _⟩))
          have dT := Lib.hid (fun p => calls_after (p := p) ((HIT.out (After w5 p)).mono fun e w' ⟨h1, h2⟩ => ⟨h1, by rw [h2]; exact Below.refl _ _⟩))
          go_wp2_with fail
          refine wp_region_after (by kernel_rfl) (by kernel_rfl) ?_
          repeat (go_big_quiet_step (fail))
          go_big_quiet_step (exact dS.out _)
          repeat (go_big_quiet_step (fail))
          go_big_quiet_step (exact dT.out _)
          repeat (go_big_quiet_step (fail))
          refine wpQuiet_nil ?_
          rintro w6 ⟨q, rfl⟩
          have hb6 := after_below w5 q
          have H6 := Lib.hid (hN.out.2.1.trans ((H5.out.1.trans (hb6.mono H5.out.1.size)).mono hN.out.2.1.size))
          generalize After w5 q = w6 at *
          clear dS dT r2 r3 u2 u3 p0 p1 p2 p3 q0 q1 q2 q3 hb6
          go_wp2
          go_ret3
          exact HR.out _ _ ⟨⟨_, _, rfl, HS.out⟩, H6.out⟩
        · have HX := Lib.hid hx
          have hqb := text_ne hq
          generalize nodeS sa sb = Q at *
          generalize nodeS sa tb = Q2 at *
          clear hx hq
          refine wp_region_after (by kernel_rfl) (by kernel_rfl) ?_
          repeat (go_big_quiet_step (fail))
          go_big_quiet_step (exact cS.out _)
          repeat (go_big_quiet_step (fail))
          go_big_quiet_step (exact cT.out _)
          repeat (go_big_quiet_step (fail))
          refine wpQuiet_nil ?_
          rintro w5 ⟨q, rfl⟩
          have hb5 := after_below W2 q
          have H5 := Lib.hid (And.intro (HK.out.1.trans (hb5.mono HK.out.1.size)) (And.intro (blk_on hb5 HK.out.2.1) (blk_on hb5 HK.out.2.2)))
          generalize After W2 q = w5 at *
          clear cS cT r2 r3 u2 u3 p0 p1 p2 p3 q0 q1 q2 q3 hb5
          have HN := Lib.hid (show clashL (st.drop (k + 1)) (su.drop (k + 1)) = some (S, T) by
            rcases hcs.out with ⟨h, _⟩ | ⟨_, h⟩
            · rw [HX.out] at h; cases h
            · exact h)
          go_wp2_with fail
          go_roundw
          case rel => exact ⟨k + 1, by omega, by go_num, Lib.hid ⟨HN.out, hN.out.2.1.trans (H5.out.1.mono hN.out.2.1.size), hN.out.2.2.1.below H5.out.1, hN.out.2.2.2.below H5.out.1⟩⟩
          case measure => simp [intOf]; omega
    · obtain rfl : k = N := by omega
      have h9 := hN.out.1
      rw [← HSN.out.1] at h9
      exact (clash_end st su S T h9).elim
theorem clash_any (lv : Value) (l : List ByteArray) (i : Int) (x : ByteArray) (pv : Value) (ps : List ByteArray) (w : World) (hl : Rd strE w lv l) (hp : Rd strE w pv ps) (hln : l.length ≤ 1048576) (hpn : ps.length ≤ 100000000) :
    Calls Try.prog 58 #[lv, .int .i64 i, .string x, pv] w fun e w' => (if wholeL l = true ∧ 0 ≤ i ∧ i < l.length ∧ l[i.toNat]? ≠ some x ∧ isV (rootL l) l.length i x ps = true then clashY e else clashN e) ∧ Below w.heap.size w w' := by
  cases hw : wholeL l
  · exact (clash_no1 lv l i x pv ps w hl hp hln hpn hw).mono fun e w' ⟨h1, h2⟩ => ⟨by rw [if_neg (fun h => by cases h.1)]; exact h1, h2⟩
  by_cases h0 : i < 0
  · exact (clash_no2 lv l i x pv ps w hl hp hln hpn hw (.inl h0)).mono fun e w' ⟨h1, h2⟩ => ⟨by rw [if_neg (fun h => by have := h.2.1; omega)]; exact h1, h2⟩
  by_cases h1 : (l.length : Int) ≤ i
  · exact (clash_no2 lv l i x pv ps w hl hp hln hpn hw (.inr ⟨h0, h1⟩)).mono fun e w' ⟨h1, h2⟩ => ⟨by rw [if_neg (fun h => by have := h.2.2.1; omega)]; exact h1, h2⟩
  obtain ⟨j, rfl⟩ : ∃ j : Nat, i = (j : Int) := ⟨i.toNat, by omega⟩
  have hj : j < l.length := by omega
  rw [Int.toNat_natCast, List.getElem?_eq_getElem hj]
  by_cases he : l[j] = x
  · exact (clash_no3 lv l j x pv ps w hl hp hln hpn hw hj he).mono fun e w' ⟨h1, h2⟩ => ⟨by rw [if_neg (fun h => h.2.2.2.1 (by rw [he]))]; exact h1, h2⟩
  have he' : ¬ x = l[j] := fun h => he h.symm
  cases hc : isV (rootL l) l.length j x ps
  · exact (clash_no4 lv l j x pv ps w hl hp hln hpn hw hj he' hc).mono fun e w' ⟨h1, h2⟩ => ⟨by rw [if_neg (fun h => by cases h.2.2.2.2)]; exact h1, h2⟩
  · exact (clash_yes lv l j x pv ps w hl hp hln hpn hw hj he' hc).mono fun e w' ⟨h1, h2⟩ => ⟨by rw [if_pos ⟨rfl, by omega, by omega, fun h => he (by simpa using h), rfl⟩]; exact h1, h2⟩
end Go.Proofs.Ytelmcoedmkhkjaa
