/- The reference's Text. -/
import Derived.Test.YtophfeapmmfppaaShaRStep
import Derived.Test.YtophfeapmmfppaaOctetRPut
namespace Go.Proofs.Ytophfeapmmfppaa
open Go.RowKit Ks
set_option linter.unusedVariables false

theorem rput4 (n : Nat) (w : World) (h : n < 4294967296) :
    Calls Try.prog 57 #[.int .i64 n, .int .i64 4] w fun e w' => e = .returned (.tuple #[.string ⟨(putL 4 n).toArray⟩, .int .i64 0]) ∧ Below w.heap.size w w' :=
  (rput_ok n 4 w (by decide) (by decide) (by omega)).mono fun e w' ⟨h1, _, h2⟩ => ⟨h1 (Nat.div_eq_of_lt (by rw [show (256 : Nat) ^ 4 = 4294967296 from by decide]; exact h)), h2⟩

set_option maxHeartbeats 1000000 in
theorem rtext_any (s : St) (w : World) (hs : s.ok) : Calls Try.prog 48 #[.agg (i64s s.list)] w fun e w' => e = .returned (.string ⟨(textL s).toArray⟩) ∧ Below w.heap.size w w' := by
  refine calls_by fun R HR => ?_
  obtain ⟨C, hC⟩ : ∃ C, i64s s.list = C := ⟨_, rfl⟩
  rw [hC]
  have HC := Lib.hid hC
  clear hC
  go_enter Try.func48, Try.ntmps48
  go_wp2_with fail
  have HF := Lib.hid (And.intro (show NumsI (w.alloc (.cells C 75)) w.heap.size 75 s.list by rw [← HC.out]; exact NumsI.new _ _ _) (alloc_below w (.cells C 75)))
  generalize w.alloc (.cells C 75) = W at *
  go_loopw [3, 4] (fun v i wx => ∃ k, k ≤ 8 ∧ i = .int .i64 (k : Nat) ∧ v = .string ⟨(textTo s k).toArray⟩ ∧ Hid (NumsI wx w.heap.size 75 s.list ∧ Below w.heap.size w wx)) (fun _ i _ => 8 - (intOf i).toNat)
  case atStart => exact ⟨0, by omega, rfl, rfl, HF⟩
  case round =>
    obtain ⟨k, hk, rfl, rfl, hN⟩ := hrel
    by_cases hlt : k < 8
    · have hts := textTo_succ s k hlt
      obtain ⟨n, hn⟩ : ∃ n, s.list.getD k 0 = n := ⟨_, rfl⟩
      have hn1 : n < 4294967296 := by rw [← hn]; exact st_lt hs k
      have ck := hN.out.1.cell k hlt
      rw [hn] at ck hts
      have HTS := Lib.hid hts
      have HL := Lib.hid hn1
      have HS := Lib.hid hs
      clear hn hn1 hts hs
      go_wp2_with fail
      refine (rput4 n _ HL.out).mono ?_
      rintro e w1 ⟨rfl, hb⟩
      have HM := Lib.hid (And.intro (hN.out.1.keep hb) (hN.out.2.trans (hb.mono hN.out.2.size)))
      clear hb hN ck
      have hAB : (textTo s k).length + (putL 4 n).length ≤ 9223372036854775807 := by rw [textTo_length s k hk, putL_length]; omega
      generalize textTo s k = A at *
      generalize putL 4 n = B at *
      go_wp2_with fail
      go_round
      case rel => exact ⟨k + 1, by omega, by go_num, by rw [HTS.out]; simp [ByteArray.mk_append_mk], HM⟩
      case measure => simp [intOf]; omega
    · obtain rfl : k = 8 := by omega
      have HM := Lib.hid hN.out.2
      clear hN HF
      go_wp2
      exact HR.out _ _ ⟨by rw [textTo_all]; rfl, HM.out⟩

end Go.Proofs.Ytophfeapmmfppaa
