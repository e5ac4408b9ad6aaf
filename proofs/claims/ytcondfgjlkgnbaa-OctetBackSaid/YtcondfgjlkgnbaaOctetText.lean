/- What Text, Cut, Fill and Noughts answer, of the program and of the reference. -/
import Derived.Test.YtcondfgjlkgnbaaOctetPut
import Derived.Test.YtcondfgjlkgnbaaOctetRGet
import Derived.Test.YtcondfgjlkgnbaaShelf
import Derived.Test.YtcondfgjlkgnbaaAfter
namespace Go.Proofs.Ytcondfgjlkgnbaa
open Go.RowKit Ks
set_option linter.unusedVariables false

theorem text_mask (n : Nat) (h : n < 4294967296) : bits .and .i64 (n : Int) 4294967295 = (n : Int) := by
  have := bits_mask .i64 63 (by decide) (fun n h0 h1 => by rw [IntKind.wrap_i64]; omega) 32 (by decide) (n : Int) (by omega) (by omega)
  rw [show ((2 : Int) ^ 32 - 1) = 4294967295 from by decide] at this
  rw [this]; omega

theorem putS_four (n : Nat) (h : n < 4294967296) : putS n 4 = ⟨(putL 4 n).toArray⟩ := by
  have hp : putOk n 4 = true := by
    simp only [putOk, decide_eq_true_eq]
    refine ⟨by omega, by omega, by omega, fun _ => ?_⟩
    have : (2 : Nat) ^ (8 * (4 : Int).toNat) = 4294967296 := by decide
    rw [this]
    exact Nat.div_eq_of_lt (by omega)
  rw [putS, if_pos hp]; rfl

/-- a text with its length ahead -/
def textS (s : ByteArray) : ByteArray := ⟨(putL 4 s.size ++ s.data.toList).toArray⟩

theorem textS_eq (s : ByteArray) (h : s.size < 4294967296) : putS s.size 4 ++ s = textS s := by
  rw [putS_four _ h]
  obtain ⟨⟨l⟩⟩ := s
  exact ByteArray.mk_append_mk _ _

theorem putS_size (n w : Int) : (putS n w).size ≤ 8 := by
  unfold putS
  split
  · rename_i h
    have := putOk_width h
    show (putL _ _).length ≤ 8
    rw [putL_length]; omega
  · show (0 : Nat) ≤ 8
    omega

set_option maxHeartbeats 400000 in
theorem text_any (s : ByteArray) (w : World) (hs : s.size < 4294967296) :
    Calls Try.prog 19 #[.string s] w fun e w' => e = .returned (.string (textS s)) ∧ Below w.heap.size w w' := by
  refine calls_by fun R HR => ?_
  have hm := text_mask s.size hs
  have hz := putS_size s.size 4
  go_enter Try.func19, Try.ntmps19
  go_wp2_with fail
  refine (put_any _ _ _ (by omega)).mono ?_
  rintro e w1 ⟨rfl, hb1⟩
  go_wp2
  refine HR.out _ _ ⟨?_, hb1⟩
  rw [← textS_eq s hs]
  rfl

set_option maxHeartbeats 400000 in
theorem rtext_any (s : ByteArray) (w : World) (hs : s.size < 4294967296) :
    Calls Try.prog 23 #[.string s] w fun e w' => e = .returned (.string (textS s)) ∧ Below w.heap.size w w' := by
  refine calls_by fun R HR => ?_
  have hz := putS_size s.size 4
  go_enter Try.func23, Try.ntmps23
  go_wp2_with fail
  refine (rput_any _ _ _ (by omega)).mono ?_
  rintro e w1 ⟨rfl, hb1⟩
  go_wp2
  refine HR.out _ _ ⟨?_, hb1⟩
  rw [← textS_eq s hs]
  rfl

/-- the number that a text begins with; whether as many bytes are there; the text, and the rest -/
def cutN (s : ByteArray) : Nat := getN (s.data.toList.take 4)
def cutOk (s : ByteArray) : Bool := decide (4 ≤ s.size ∧ cutN s ≤ s.size - 4)
def cutA (s : ByteArray) : ByteArray := if cutOk s then s.extract 4 (4 + cutN s) else ⟨#[]⟩
def cutB (s : ByteArray) : ByteArray := if cutOk s then s.extract (4 + cutN s) s.size else ⟨#[]⟩
def cutE (s : ByteArray) : Int := if cutOk s then 0 else 3

theorem getV_four (s : ByteArray) (h : 4 ≤ s.size) : getV (s.extract 0 4) = (cutN s : Int) ∧ cutN s < 4294967296 := by
  obtain ⟨⟨l⟩⟩ := s
  have hl : 4 ≤ l.length := h
  have he : (ByteArray.mk l.toArray).extract 0 4 = ⟨(l.take 4).toArray⟩ := by rw [ByteArray.extract_mk]; simp
  have hlt := getN_lt (l.take 4)
  have h4 : (l.take 4).length = 4 := by rw [List.length_take]; omega
  rw [h4, show (256 : Nat) ^ 4 = 4294967296 by decide] at hlt
  have ho : getOk (l.take 4) = true := by
    simp only [getOk, decide_eq_true_eq]
    omega
  refine ⟨?_, hlt⟩
  rw [he, getV, if_pos ho]
  rfl

theorem extract_list (s : ByteArray) (a b : Nat) : s.extract a b = ⟨((s.data.toList.drop a).take (b - a)).toArray⟩ := by
  obtain ⟨⟨l⟩⟩ := s
  exact ByteArray.extract_mk l a b

theorem extract_twice (s : ByteArray) (a b c d : Nat) (h : a + d ≤ b) : (s.extract a b).extract c d = s.extract (a + c) (a + d) := by
  obtain ⟨⟨l⟩⟩ := s
  rw [ByteArray.extract_mk, ByteArray.extract_mk, ByteArray.extract_mk]
  congr 2
  rw [List.drop_take, List.take_take, List.drop_drop]
  congr 1
  omega

set_option maxHeartbeats 400000 in
theorem cut_any (s : ByteArray) (w : World) (hs : s.size ≤ 4611686018427387904) :
    Calls Try.prog 18 #[.string s] w fun e w' => e = .returned (.tuple #[.string (cutA s), .string (cutB s), .int .i64 (cutE s)]) ∧ Below w.heap.size w w' := by
  refine calls_by fun R HR => ?_
  by_cases h4 : s.size < 4
  · go_enter Try.func18, Try.ntmps18
    go_wp2
    go_ret3
    refine HR.out _ _ ⟨?_, Below.refl _ _⟩
    have hf : ¬ cutOk s = true := by simp only [cutOk, decide_eq_true_eq]; omega
    rw [cutA, cutB, cutE, if_neg hf, if_neg hf, if_neg hf]
    rfl
  · have h4' : 4 ≤ s.size := by omega
    obtain ⟨hv, hn⟩ := getV_four s h4'
    go_enter Try.func18, Try.ntmps18
    go_wp2_with fail
    refine (get_any _ _).mono ?_
    rintro e w1 ⟨rfl, rfl⟩
    by_cases hc : cutN s ≤ s.size - 4
    · go_wp2
      go_quiet (fail)
      go_wp2
      go_ret3
      refine HR.out _ _ ⟨?_, below_drewN (Below.refl _ _) _⟩
      have hf : cutOk s = true := by simp only [cutOk, decide_eq_true_eq]; omega
      rw [cutA, cutB, cutE, if_pos hf, if_pos hf, if_pos hf]
      show Ending.returned (.tuple #[.string ((s.extract 4 s.size).extract 0 (cutN s)), .string ((s.extract 4 s.size).extract (cutN s) (s.size - 4)), .int .i64 0]) = _
      rw [extract_twice _ _ _ _ _ (by omega), extract_twice _ _ _ _ _ (by omega)]
      rw [show 4 + (s.size - 4) = s.size by omega]
    · go_wp2
      go_ret3
      refine HR.out _ _ ⟨?_, Below.refl _ _⟩
      have hf : ¬ cutOk s = true := by simp only [cutOk, decide_eq_true_eq]; omega
      rw [cutA, cutB, cutE, if_neg hf, if_neg hf, if_neg hf]
      rfl

set_option maxHeartbeats 400000 in
theorem rcut_any (s : ByteArray) (w : World) (hs : s.size ≤ 4611686018427387904) :
    Calls Try.prog 20 #[.string s] w fun e w' => e = .returned (.tuple #[.string (cutA s), .string (cutB s), .int .i64 (cutE s)]) ∧ Below w.heap.size w w' := by
  refine calls_by fun R HR => ?_
  by_cases h4 : s.size < 4
  · go_enter Try.func20, Try.ntmps20
    go_wp2
    go_ret3
    refine HR.out _ _ ⟨?_, Below.refl _ _⟩
    have hf : ¬ cutOk s = true := by simp only [cutOk, decide_eq_true_eq]; omega
    rw [cutA, cutB, cutE, if_neg hf, if_neg hf, if_neg hf]
    rfl
  · have h4' : 4 ≤ s.size := by omega
    obtain ⟨hv, hn⟩ := getV_four s h4'
    go_enter Try.func20, Try.ntmps20
    go_wp2_with fail
    refine (rget_any _ _).mono ?_
    rintro e w1 ⟨rfl, rfl⟩
    by_cases hc : cutN s ≤ s.size - 4
    · go_wp2
      go_quiet (fail)
      go_wp2
      go_ret3
      refine HR.out _ _ ⟨?_, below_drewN (Below.refl _ _) _⟩
      have hf : cutOk s = true := by simp only [cutOk, decide_eq_true_eq]; omega
      rw [cutA, cutB, cutE, if_pos hf, if_pos hf, if_pos hf]
      rfl
    · go_wp2
      go_ret3
      refine HR.out _ _ ⟨?_, Below.refl _ _⟩
      have hf : ¬ cutOk s = true := by simp only [cutOk, decide_eq_true_eq]; omega
      rw [cutA, cutB, cutE, if_neg hf, if_neg hf, if_neg hf]
      rfl

/-- noughts -/
def zerosS (n : Int) : ByteArray := ⟨(List.replicate n.toNat (0 : UInt8)).toArray⟩
def fillOk (s : ByteArray) (n : Int) : Bool := decide (s.size ≤ n ∧ n ≤ 65536)
def fillS (s : ByteArray) (n : Int) : ByteArray := if fillOk s n then s ++ zerosS (n - s.size) else ⟨#[]⟩
def fillE (s : ByteArray) (n : Int) : Int := if fillOk s n then 0 else 2

theorem repeat_zero (n : Nat) : Lib.repeatL [(0 : UInt8)] n = List.replicate n 0 := by
  induction n with
  | zero => rfl
  | succ n ih => simp [Lib.repeatL, ih, List.replicate_succ]

theorem zerosS_size (m : Nat) : (zerosS m).size = m := by
  show (List.replicate _ _).length = _
  simp
theorem repeat_zeros (m : Nat) : (⟨(Lib.repeatL (ByteArray.mk #[0]).data.toList m).toArray⟩ : ByteArray) = zerosS m := by
  show (⟨(Lib.repeatL [(0 : UInt8)] m).toArray⟩ : ByteArray) = ⟨(List.replicate m (0 : UInt8)).toArray⟩
  rw [repeat_zero]

theorem Try.infoByteN : (Try.prog.info? 5).map (fun i => (i.zero, i.size, i.bytes)) = some (some (.int .u8 0), 1, 1) := by kernel_rfl

set_option maxHeartbeats 400000 in
theorem noughts_any (n : Int) (w : World) (hn : n ≤ 281474976710656) :
    Calls Try.prog 28 #[.int .i64 n] w fun e w' => e = .returned (.string (zerosS n)) ∧ Below w.heap.size w w' := by
  refine calls_by fun R HR => ?_
  by_cases h1 : n < 1
  · go_enter Try.func28, Try.ntmps28
    go_wp2
    refine HR.out _ _ ⟨?_, Below.refl _ _⟩
    rw [zerosS, show n.toNat = 0 by omega]
    rfl
  · obtain ⟨n, rfl⟩ := Int.eq_ofNat_of_zero_le (show 0 ≤ n by omega)
    have hmk := fun w => run_make_row' (P := Try.prog) 52 5 (.int .u8 0) 1 Try.underlying52 Try.infoByteN rfl .i64 .i64 n (by omega) (by omega) w
    have hconv := conv_row (P := Try.prog) (src := 52) (dst := 9) (cap := n) (List.replicate n 0) Try.underlying52 Try.underlying5 Try.underlying9 (World.rowIs_made w (.int .u8 0) n 5) (by simp) (by simp)
    go_enter Try.func28, Try.ntmps28
    go_wp2
    refine HR.out _ _ ⟨?_, (Below.refl _ _).alloc (Nat.le_refl _) _⟩
    rw [zerosS, show ((n : Int)).toNat = n by omega]
    simp

set_option maxHeartbeats 400000 in
theorem fill_any (s : ByteArray) (n : Int) (w : World) :
    Calls Try.prog 21 #[.string s, .int .i64 n] w fun e w' => e = .returned (.tuple #[.string (fillS s n), .int .i64 (fillE s n)]) ∧ Below w.heap.size w w' := by
  refine calls_by fun R HR => ?_
  by_cases h : (s.size : Int) ≤ n ∧ n ≤ 65536
  · obtain ⟨n, rfl⟩ := Int.eq_ofNat_of_zero_le (show 0 ≤ n by omega)
    obtain ⟨h1, h2⟩ := h
    obtain ⟨m, rfl⟩ : ∃ m, n = s.size + m := ⟨n - s.size, by omega⟩
    go_enter Try.func21, Try.ntmps21
    go_wp2_with fail
    rw [show ((s.size : Int) + (m : Int) - (s.size : Int)) = (m : Int) by omega]
    refine (Try.strings_Repeat ⟨#[0]⟩ m _ (by omega) (by show 1 * m ≤ _; omega)).mono ?_
    rintro e w1 ⟨rfl, hb1⟩
    rw [repeat_zeros]
    have hz : (zerosS m).size = m := zerosS_size m
    go_wp2
    refine HR.out _ _ ⟨?_, hb1⟩
    have hf : fillOk s (s.size + m : Nat) = true := by simp only [fillOk, decide_eq_true_eq]; omega
    rw [fillS, fillE, if_pos hf, if_pos hf, show (((s.size + m : Nat) : Int) - (s.size : Int)) = (m : Int) by omega]
    rfl
  · go_enter Try.func21, Try.ntmps21
    go_wp2
    all_goals
      refine HR.out _ _ ⟨?_, Below.refl _ _⟩
      have hf : ¬ fillOk s n = true := by simpa only [fillOk, decide_eq_true_eq] using h
      rw [fillS, fillE, if_neg hf, if_neg hf]
      try rfl

set_option maxHeartbeats 400000 in
theorem rfill_any (s : ByteArray) (n : Int) (w : World) :
    Calls Try.prog 22 #[.string s, .int .i64 n] w fun e w' => e = .returned (.tuple #[.string (fillS s n), .int .i64 (fillE s n)]) ∧ Below w.heap.size w w' := by
  refine calls_by fun R HR => ?_
  by_cases h : (s.size : Int) ≤ n ∧ n ≤ 65536
  · obtain ⟨n, rfl⟩ := Int.eq_ofNat_of_zero_le (show 0 ≤ n by omega)
    obtain ⟨h1, h2⟩ := h
    obtain ⟨m, rfl⟩ : ∃ m, n = s.size + m := ⟨n - s.size, by omega⟩
    go_enter Try.func22, Try.ntmps22
    go_wp2_with fail
    refine (noughts_any _ _ (by omega)).mono ?_
    rintro e w1 ⟨rfl, hb1⟩
    rw [show ((s.size : Int) + (m : Int) - (s.size : Int)) = (m : Int) by omega]
    have hz : (zerosS m).size = m := zerosS_size m
    go_wp2
    refine HR.out _ _ ⟨?_, hb1⟩
    have hf : fillOk s (s.size + m : Nat) = true := by simp only [fillOk, decide_eq_true_eq]; omega
    rw [fillS, fillE, if_pos hf, if_pos hf, show (((s.size + m : Nat) : Int) - (s.size : Int)) = (m : Int) by omega]
    rfl
  · go_enter Try.func22, Try.ntmps22
    go_wp2
    all_goals
      refine HR.out _ _ ⟨?_, Below.refl _ _⟩
      have hf : ¬ fillOk s n = true := by simpa only [fillOk, decide_eq_true_eq] using h
      rw [fillS, fillE, if_neg hf, if_neg hf]
      try rfl

end Go.Proofs.Ytcondfgjlkgnbaa
