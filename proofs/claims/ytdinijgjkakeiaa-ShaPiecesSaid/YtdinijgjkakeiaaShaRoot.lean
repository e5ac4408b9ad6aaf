/- The primes' roots, in digits: plain. No program is in sight. -/
import Derived.Test.YtdinijgjkakeiaaShaPlain
import Derived.Test.YtdinijgjkakeiaaSeq
namespace Ks
open Go Go.RowKit
set_option linter.unusedVariables false
def natE : Enc Nat := ⟨1, fun n => [.int .i64 (n : Int)], fun _ => rfl, fun x u hu => by simp only [List.mem_singleton] at hu; subst hu; rfl, by decide⟩
theorem Rd.nat {w : World} {a : Option Addr} {n c : Nat} {l : List Nat} (h : Rd natE w (.slice a n c) l) (i : Nat) (hi : i < l.length) : ∃ b o, a = some ⟨b, o, none⟩ ∧ b < w.heap.size ∧ w.cell? ⟨b, o + i, none⟩ = some (.int .i64 (l[i] : Nat)) := by
  obtain ⟨b, o, h1, h2, h3⟩ := h.at i l[i] (List.getElem?_eq_getElem hi)
  refine ⟨b, o, h1, h2, ?_⟩
  have := h3 0 (.int .i64 (l[i] : Nat)) rfl
  simpa [natE] using this

def tailN : Nat → Nat → List Nat
  | 0, _ => []
  | f + 1, c => if c = 0 then [] else (c % 65536) :: tailN f (c / 65536)
def timesGo (n : Nat) : List Nat → Nat → List Nat
  | [], c => tailN 4 c
  | x :: l, c => ((c + x * n) % 65536) :: timesGo n l ((c + x * n) / 65536)
def timesN (l : List Nat) (n : Nat) : List Nat := timesGo n l 0
def digN (l : List Nat) : Prop := ∀ x ∈ l, x < 65536
theorem tailN_dig : ∀ f c, digN (tailN f c)
  | 0, _ => by intro x hx; cases hx
  | f + 1, c => by
    intro x hx
    unfold tailN at hx
    split at hx
    · cases hx
    · rcases List.mem_cons.1 hx with rfl | hx
      · exact Nat.mod_lt _ (by decide)
      · exact tailN_dig f _ x hx
theorem timesGo_dig (n : Nat) : ∀ l c, digN (timesGo n l c)
  | [], c => tailN_dig 4 c
  | y :: l, c => by
    intro x hx
    rcases List.mem_cons.1 hx with rfl | hx
    · exact Nat.mod_lt _ (by decide)
    · exact timesGo_dig n l _ x hx
theorem timesN_dig (l : List Nat) (n : Nat) : digN (timesN l n) := timesGo_dig n l 0
theorem tailN_len : ∀ f c, (tailN f c).length ≤ f
  | 0, _ => Nat.le_refl _
  | f + 1, c => by
    unfold tailN
    split
    · exact Nat.zero_le _
    · exact Nat.succ_le_succ (tailN_len f _)
theorem timesGo_len (n : Nat) : ∀ l c, (timesGo n l c).length ≤ l.length + 4
  | [], c => by rw [timesGo]; have := tailN_len 4 c; simp only [List.length_nil]; omega
  | y :: l, c => by rw [timesGo]; have := timesGo_len n l ((c + y * n) / 65536); simp only [List.length_cons]; omega
theorem timesN_len (l : List Nat) (n : Nat) : (timesN l n).length ≤ l.length + 4 := timesGo_len n l 0
def digitN (l : List Nat) (i : Nat) : Nat := l.getD i 0
/-- is the first one greater? from the place below i -/
def cmpN (a b : List Nat) : Nat → Bool
  | 0 => false
  | i + 1 => if digitN a i ≠ digitN b i then decide (digitN b i < digitN a i) else cmpN a b i
def powL (r : Nat) (p : Nat) : Nat → List Nat
  | 0 => [p]
  | k + 1 => timesN (powL r p k) r
def aboveN (r p k : Nat) : Bool := cmpN (powL r 1 k) (powL 4294967296 p k) (max (powL r 1 k).length (powL 4294967296 p k).length)
def behindTo (p k : Nat) : Nat → Nat → Nat
  | 0, r => r
  | b + 1, r => behindTo p k b (if aboveN (r + 2 ^ b) p k then r else r + 2 ^ b)
def behindN (p k : Nat) : Nat := behindTo p k 36 0 % 4294967296
def primesN : List Nat := [2, 3, 5, 7, 11, 13, 17, 19, 23, 29, 31, 37, 41, 43, 47, 53, 59, 61, 67, 71, 73, 79, 83, 89, 97, 101, 103, 107, 109, 113, 127, 131, 137, 139, 149, 151, 157, 163, 167, 173, 179, 181, 191, 193, 197, 199, 211, 223, 227, 229, 233, 239, 241, 251, 257, 263, 269, 271, 277, 281, 283, 293, 307, 311]
def isN (p : Nat) : Bool := (List.range 20).all fun d => !(decide ((d + 2) * (d + 2) ≤ p) && decide (p % (d + 2) = 0))
/-- the one ahead -/
def aheadN (k : Nat) : Nat := if k = 0 then 1 else primesN.getD (k - 1) 0
set_option maxRecDepth 10000 in
theorem primes_right : ∀ k, k < 64 → aheadN k < primesN.getD k 0 ∧ isN (primesN.getD k 0) = true ∧ primesN.getD k 0 ≤ 311 ∧ ∀ q, q < 312 → aheadN k < q → q < primesN.getD k 0 → isN q = false := by decide +kernel
set_option maxRecDepth 100000 in
theorem cubes_right : ∀ k, k < 64 → behindN (primesN.getD k 0) 3 = kays.getD k 0 := by decide +kernel
set_option maxRecDepth 100000 in
theorem squares_right : ∀ k, k < 8 → behindN (primesN.getD k 0) 2 = st0.list.getD k 0 := by decide +kernel
end Ks
