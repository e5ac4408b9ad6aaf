/- The law's acts: plain; what an act writes. -/
import Derived.Test.YtielmlnbjliacaaRFull4
import Derived.Test.YtielmlnbjliacaaDiskPlain
import Derived.Test.YtielmlnbjliacaaBase
import Derived.Test.YtielmlnbjliacaaSeq
import Derived.Test.YtielmlnbjliacaaSeqObj
namespace Ks
open Go Go.RowKit
set_option linter.unusedVariables false
/-- an act of the law -/
structure ActT where
  kind : Int
  at_ : Int
  n : Int
  text : ByteArray
  raw : Bool
  keep : List Int
end Ks
namespace Go.Proofs.Ytielmlnbjliacaa
open Go.RowKit Ks
set_option linter.unusedVariables false
def actText (a : ActT) : ByteArray := if a.raw then a.text else full4 a.text
/-- what an act makes of a disk -/
def doD (s : DS) (a : ActT) : DS :=
  if a.kind = 1 then writeD s a.at_ (actText a) else if a.kind = 3 then flushD s else if a.kind = 4 then armD s a.n else if a.kind = 5 then crashD s a.keep
  else if a.kind = 6 then bootD s else if a.kind = 7 then overD s a.at_ (actText a) else s
abbrev actV (a : ActT) (kv : Value) : Value := .agg #[.int .i64 a.kind, .int .i64 a.at_, .int .i64 a.n, .string a.text, .bool a.raw, kv]

theorem doD_ok {s : DS} (h : s.ok) (a : ActT) (hn : a.n ≤ 9223372036854775807) : (doD s a).ok := by
  unfold doD
  repeat' split
  · exact writeD_ok h _ _
  · exact flushD_ok h
  · exact armD_ok h _ hn
  · exact crashD_ok h _
  · exact bootD_ok h
  · exact overD_ok h _ _
  · exact h

theorem acttext_any (a : ActT) (kv : Value) (w : World) : Calls Try.prog 17 #[actV a kv] w fun e w' => e = .returned (.string (actText a)) ∧ Below w.heap.size w w' := by
  refine calls_by fun R HR => ?_
  obtain ⟨kd, at_, n, t, raw, keep⟩ := a
  cases raw
  · have HV := Lib.hid (show actText ⟨kd, at_, n, t, false, keep⟩ = full4 t from rfl)
    have HA := Lib.hid (alloc_below w (.cells #[.int .i64 kd, .int .i64 at_, .int .i64 n, .string t, .bool false, kv] 33))
    go_enter Try.func17, Try.ntmps17
    go_wp2_with fail
    refine (full4_any t _).mono ?_
    rintro e w1 ⟨rfl, hb⟩
    have HB := Lib.hid (HA.out.trans (hb.mono (by simp)))
    clear hb
    go_wp2
    exact HR.out _ _ ⟨by rw [HV.out] <;> rfl, HB.out⟩
  · have HV := Lib.hid (show actText ⟨kd, at_, n, t, true, keep⟩ = t from rfl)
    have HA := Lib.hid (alloc_below w (.cells #[.int .i64 kd, .int .i64 at_, .int .i64 n, .string t, .bool true, kv] 33))
    go_enter Try.func17, Try.ntmps17
    go_wp2
    exact HR.out _ _ ⟨by rw [HV.out] <;> rfl, HA.out⟩
end Go.Proofs.Ytielmlnbjliacaa
