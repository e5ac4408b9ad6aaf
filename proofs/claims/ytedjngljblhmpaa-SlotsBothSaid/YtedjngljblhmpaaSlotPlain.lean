/- The blocks for keys: plain. -/
import Derived.Test.YtedjngljblhmpaaCellBackPlain
import Derived.Test.YtedjngljblhmpaaShaFold
namespace Ks
open Go Go.RowKit
set_option linter.unusedVariables false
def keyM : ByteArray := ⟨#[107, 101, 121]⟩
def keyL (n : Nat) (k : ByteArray) : List UInt8 := [107, 101, 121] ++ (putL 4 n ++ k.data.toList)
def slotB (n : Nat) (k : ByteArray) : List UInt8 := keyL n k ++ (shaL (keyL n k) ++ List.replicate 4025 0)
def slotOk (n : Int) (k : ByteArray) : Bool := decide (0 ≤ n ∧ n ≤ 4294967295 ∧ k.size = 32)
def slotS (n : Int) (k : ByteArray) : ByteArray := if slotOk n k then ⟨(slotB n.toNat k).toArray⟩ else ⟨#[]⟩
def slotE (n : Int) (k : ByteArray) : Int := if slotOk n k then 0 else 2
def slotH (n : Int) (k : ByteArray) : ByteArray := keyM ++ putS n 4 ++ k
theorem slot_ok {n : Int} {k : ByteArray} : slotOk n k = true ↔ 0 ≤ n ∧ n ≤ 4294967295 ∧ k.size = 32 := by simp [slotOk]
theorem keyL_length (n : Nat) (k : ByteArray) : (keyL n k).length = 7 + k.size := by
  have := data_length k
  simp [keyL]; omega
theorem slotH_data (n : Int) (k : ByteArray) (h0 : 0 ≤ n) (h1 : n ≤ 4294967295) : slotH n k = ⟨(keyL n.toNat k).toArray⟩ := by
  rw [slotH, putS4 n h0 h1, show keyM = ⟨([107, 101, 121] : List UInt8).toArray⟩ from rfl]
  obtain ⟨⟨l⟩⟩ := k
  rw [ByteArray.mk_append_mk, ByteArray.mk_append_mk, keyL]
  simp
theorem slot_cat (n : Int) (k : ByteArray) (hok : slotOk n k = true) : (slotH n k).size = 39 ∧ (slotH n k ++ (⟨(shaL (slotH n k).data.toList).toArray⟩ : ByteArray)).size = 71 ∧
    fillS (slotH n k ++ (⟨(shaL (slotH n k).data.toList).toArray⟩ : ByteArray)) 4096 = slotS n k ∧ fillE (slotH n k ++ (⟨(shaL (slotH n k).data.toList).toArray⟩ : ByteArray)) 4096 = 0 ∧
    slotH n k ++ (⟨(shaL (slotH n k).data.toList).toArray⟩ : ByteArray) ++ zerosS 4025 = slotS n k := by
  obtain ⟨h0, h1, h2⟩ := slot_ok.1 hok
  have e := slotH_data n k h0 h1
  have hl := keyL_length n.toNat k
  have hs := shaL_length (keyL n.toNat k)
  have e2 : slotH n k ++ (⟨(shaL (slotH n k).data.toList).toArray⟩ : ByteArray) = ⟨(keyL n.toNat k ++ shaL (keyL n.toNat k)).toArray⟩ := by
    rw [e, ByteArray.mk_append_mk]
  have hz : (slotH n k ++ (⟨(shaL (slotH n k).data.toList).toArray⟩ : ByteArray)).size = 71 := by
    rw [e2]
    show (keyL n.toNat k ++ shaL (keyL n.toNat k)).length = _
    rw [List.length_append, hl, hs, h2]
  have hR : slotH n k ++ (⟨(shaL (slotH n k).data.toList).toArray⟩ : ByteArray) ++ zerosS 4025 = slotS n k := by
    rw [e2, zerosS, ByteArray.mk_append_mk, slotS, if_pos hok, slotB, List.append_assoc]
    rfl
  refine ⟨by rw [e]; show (keyL n.toNat k).length = _; rw [hl, h2], hz, ?_, ?_, hR⟩
  · rw [fillS, if_pos (by simp only [fillOk, decide_eq_true_eq]; rw [hz]; omega), hz]
    exact hR
  · rw [fillE, if_pos (by simp only [fillOk, decide_eq_true_eq]; rw [hz]; omega)]

theorem slot_data (n : Int) (k : ByteArray) (hok : slotOk n k = true) : (slotS n k).data.toList = slotB n.toNat k := by rw [slotS, if_pos hok]
theorem slotB_length (n : Nat) (k : ByteArray) (h : k.size = 32) : (slotB n k).length = 4096 := by
  rw [slotB, List.length_append, List.length_append, List.length_replicate, keyL_length, shaL_length, h]
theorem slot_size (n : Int) (k : ByteArray) (hok : slotOk n k = true) : (slotS n k).size = 4096 := by
  rw [← data_length, slot_data n k hok, slotB_length _ _ (slot_ok.1 hok).2.2]

/-- which epoch and key any block has; why it has none -/
def slotN (b : ByteArray) : Nat := numAt b 3 4
def slotK (b : ByteArray) : ByteArray := b.extract 7 39
def slotX (b : ByteArray) : Int := if b.size = 4096 then (if b = zerosS 4096 then 7 else if slotS (slotN b) (slotK b) = b then 0 else 3) else 3
def slotXN (b : ByteArray) : Int := if slotX b = 0 then (slotN b : Int) else 0
def slotXK (b : ByteArray) : ByteArray := if slotX b = 0 then slotK b else ⟨#[]⟩
theorem slotN_lt (b : ByteArray) : slotN b < 4294967296 := numAt_lt b 3
theorem slotK_size (b : ByteArray) (h : b.size = 4096) : (slotK b).size = 32 := by simp [slotK, ByteArray.size_extract]; omega
theorem slotNK_ok (b : ByteArray) (h : b.size = 4096) : slotOk (slotN b) (slotK b) = true := by
  rw [slot_ok]
  have := slotN_lt b
  exact ⟨by omega, by omega, slotK_size b h⟩
theorem slot_nz (n : Int) (k : ByteArray) (hok : slotOk n k = true) : slotS n k ≠ zerosS 4096 := by
  intro h
  have h1 := congrArg (fun b => b.data.toList.head?) h
  simp only [slot_data n k hok] at h1
  exact absurd (show some (107 : UInt8) = some 0 from h1) (by decide)
theorem slot_back (n : Int) (k : ByteArray) (hok : slotOk n k = true) : slotX (slotS n k) = 0 ∧ (slotN (slotS n k) : Int) = n ∧ slotK (slotS n k) = k := by
  obtain ⟨h0, h1, h2⟩ := slot_ok.1 hok
  have hz := slot_size n k hok
  have hd := slot_data n k hok
  have hN : (slotN (slotS n k) : Int) = n := by
    unfold slotN numAt
    rw [hd, slotB]
    generalize (shaL (keyL n.toNat k) ++ List.replicate 4025 0) = Z
    rw [keyL, show [107, 101, 121] ++ (putL 4 n.toNat ++ k.data.toList) ++ Z = [107, 101, 121] ++ (putL 4 n.toNat ++ (k.data.toList ++ Z)) by simp]
    rw [piece_mid _ _ _ 3 4 rfl (putL_length _ _), getN_put4 _ (by omega)]
    omega
  have hK : slotK (slotS n k) = k := by
    apply bytes_ext
    unfold slotK
    rw [data_extract, hd, slotB]
    generalize (shaL (keyL n.toNat k) ++ List.replicate 4025 0) = Z
    rw [keyL, show [107, 101, 121] ++ (putL 4 n.toNat ++ k.data.toList) ++ Z = ([107, 101, 121] ++ putL 4 n.toNat) ++ (k.data.toList ++ Z) by simp]
    exact piece_mid _ _ _ 7 32 (by simp) (by rw [data_length, h2])
  refine ⟨?_, hN, hK⟩
  rw [slotX, if_pos hz, if_neg (slot_nz n k hok), hN, hK, if_pos rfl]
theorem slotX_of (b : ByteArray) : slotX b = 0 ∧ b.size = 4096 ∧ b ≠ zerosS 4096 ∧ slotS (slotN b) (slotK b) = b ∨ slotX b = 7 ∧ b = zerosS 4096 ∨ slotX b = 3 ∧ b ≠ zerosS 4096 := by
  unfold slotX
  by_cases h : b.size = 4096
  · rw [if_pos h]
    by_cases h1 : b = zerosS 4096
    · rw [if_pos h1]; exact Or.inr (Or.inl ⟨rfl, h1⟩)
    · rw [if_neg h1]
      by_cases h2 : slotS (slotN b) (slotK b) = b
      · rw [if_pos h2]; exact Or.inl ⟨rfl, h, h1, h2⟩
      · rw [if_neg h2]; exact Or.inr (Or.inr ⟨rfl, h1⟩)
  · rw [if_neg h]
    exact Or.inr (Or.inr ⟨rfl, fun e => h (by rw [e]; exact zerosS_size 4096)⟩)

/-- the pick -/
def epOk (ep : Int) : Bool := decide (0 ≤ ep ∧ ep ≤ 4294967295)
def pickB (a b : ByteArray) (ep : Int) : ByteArray := if ep % 2 = 1 then b else a
def pickE (a b : ByteArray) (ep : Int) : Int := if epOk ep then (if slotX (pickB a b ep) = 0 then (if slotXN (pickB a b ep) = ep then 0 else 7) else slotX (pickB a b ep)) else 2
def pickK (a b : ByteArray) (ep : Int) : ByteArray := if pickE a b ep = 0 then slotXK (pickB a b ep) else ⟨#[]⟩
def staleL (a b : ByteArray) (ep : Int) : List Int :=
  if epOk ep then (if ep % 2 = 1 then (if a = zerosS 4096 then [] else [0]) else (if b = zerosS 4096 then [] else [1])) else []
def evE (a b : ByteArray) (ep : Int) (k : ByteArray) : Int := if pickE a b ep = 0 then (if ep = 4294967295 then 6 else slotE (ep + 1) k) else pickE a b ep
def evA (a b : ByteArray) (ep : Int) (k : ByteArray) : ByteArray := if evE a b ep k = 0 then (if ep % 2 = 1 then slotS (ep + 1) k else a) else ⟨#[]⟩
def evB (a b : ByteArray) (ep : Int) (k : ByteArray) : ByteArray := if evE a b ep k = 0 then (if ep % 2 = 1 then b else slotS (ep + 1) k) else ⟨#[]⟩
theorem slotX_zeros : slotX (zerosS 4096) = 7 := by rw [slotX, if_pos (show (zerosS 4096).size = 4096 from zerosS_size 4096), if_pos rfl]
end Ks
