/- The blocks of the data: plain. -/
import Derived.Test.YtedjngljblhmpaaUnpackPlain
namespace Ks
open Go

/-- may a cell be? -/
def cellOk (e s l : Int) (g : Bool) (t : ByteArray) : Bool :=
  decide (0 ≤ e ∧ e ≤ 4294967295 ∧ 0 ≤ s ∧ s ≤ 4294967295 ∧ 0 ≤ l ∧ l ≤ 4095 ∧ t.size ≤ 4000 ∧ (g = true → t.size = 0))
/-- a cell's bytes ahead of the noughts -/
def cellH (e s l : Int) (g : Bool) (t : ByteArray) : List UInt8 :=
  (if g then 2 else 1) :: (putL 4 e.toNat ++ putL 4 s.toNat ++ putL 4 l.toNat ++ (putL 4 t.size ++ t.data.toList))
def cellB (e s l : Int) (g : Bool) (t : ByteArray) : List UInt8 := cellH e s l g t ++ List.replicate (4096 - (cellH e s l g t).length) 0
def cellS (e s l : Int) (g : Bool) (t : ByteArray) : ByteArray := if cellOk e s l g t then ⟨(cellB e s l g t).toArray⟩ else ⟨#[]⟩
def cellE (e s l : Int) (g : Bool) (t : ByteArray) : Int := if cellOk e s l g t then 0 else 2

theorem cellH_length (e s l : Int) (g : Bool) (t : ByteArray) : (cellH e s l g t).length = 17 + t.size := by
  have := data_length t
  simp [cellH]
  omega

end Ks
