/- Texts that the claim rests on, part 1: Frame, Base, Frame2, OctetPlain, ShaPlain, ShaFold, MerklePlain, MerkleNode, MerkleUpPlain. -/
import Derived.ProofKit
import Derived.WalkKit
import Derived.JoinedCond
import Derived.WalkSpells
import Derived.WalkLawsBesides
import Derived.Laws.IdiomStrings
import Derived.Deep.OwnRows
import Derived.Lib.Hide
import Derived.Lib.AppendStr
import Derived.Lib.UnsafeStr
import Derived.Laws.Bits64
import Derived.Laws.Bits64b
/- From 'the call returns true, and of what was there nothing has turned' to what a law's row asks behind the call: for whatever types of arguments. No program is in sight. -/
namespace Ks
open Go Go.RowKit Go.ChangeShapes Go.WideShapes Go.ChangeAt

theorem trodAll_below {H : Type} {enc : TypeId × Value → H} {P : Program} (hl : laidOutB P = true) {W W' : World} (hb : Below W.heap.size W W') :
    ∀ (ts : List TypeId) (vs : List Value) (ds : List (DataW H)) (ps : List MemPlace), (∀ t ∈ ts, P.readableRec t = true ∧ t < P.types.size) → (∀ x ∈ ps, x.block < W.heap.size) →
      DataW.TrodAll enc P W 0 (fun _ => true) true ts vs ds ps → DataW.TrodAll enc P W' 0 (fun b => decide (b < W.heap.size)) true ts vs ds ps
  | [], [], [], ps, _, _, h => h
  | t :: ts, v :: vs, d :: ds, ps, hr, hlt, h => by
    obtain ⟨p, q, h1, h2, rfl⟩ := h
    have ht := hr t (by simp)
    exact ⟨p, q, Below.trod hl ht.1 ht.2 h1 hb (fun x hx => hlt x (by simp [hx])), trodAll_below hl hb ts vs ds q (fun t' h' => hr t' (by simp [h'])) (fun x hx => hlt x (by simp [hx])) h2, rfl⟩
  | [], _ :: _, _, _, _, _, h => h.elim
  | [], [], _ :: _, _, _, _, h => h.elim
  | _ :: _, [], _, _, _, _, h => h.elim
  | _ :: _, _ :: _, [], _, _, _, h => h.elim

theorem law_post {H : Type} {enc : TypeId × Value → H} {P : Program} {f : Func} {s : ChangeSpec} {W W' : World} {args : Array Value} {ds : List (DataW H)} {before : List MemPlace} {tb : TypeId}
    (hW : DataW.Whole enc P f.params.toList s.vars false W args.toList ds [] before) (hv : s.vars = []) (hl : laidOutB P = true)
    (hrec : ∀ t ∈ f.params.toList, P.readableRec t = true ∧ t < P.types.size) (hres : f.resultTypes = #[tb]) (htb : P.underlying tb = some .bool)
    (hs : s.fn H (ds ++ []) = { results := [.lit (.bool true)], args := ds }) (hb : Below W.heap.size W W') :
    s.post enc P f false true false false W args (.bool true) W' := by
  have hlt := fun x hx => hW.lt x hx
  have hW' := hW
  obtain ⟨p, q, hA, hV, hpq, hfz, hnd⟩ := hW
  rw [hv] at hV
  have hq : q = [] := hV
  subst hq
  rw [List.append_nil] at hpq
  subst hpq
  refine ⟨ds, [], before, [], before, [], hW', ?_, ?_, ?_, hb.frame _, fun h => by cases h⟩
  · rw [hs, hres]
    exact trodAll_mk1 (shut_bool htb _)
  · rw [hs]
    exact trodAll_below hl hb _ _ _ _ hrec (fun x hx => by simpa using hlt x hx) hA
  · rw [hs, hv]
    rfl

theorem i64_range {n : Int} (h : (Lit.int .i64 n).wf = true) : -9223372036854775808 ≤ n ∧ n ≤ 9223372036854775807 := by
  simpa [Lit.wf, IntKind.min, IntKind.max, IntKind.signed, IntKind.bits] using h
theorem u8_range {n : Int} (h : (Lit.int .u8 n).wf = true) : 0 ≤ n ∧ n ≤ 255 := by
  simpa [Lit.wf, IntKind.min, IntKind.max, IntKind.signed, IntKind.bits] using h

end Ks
/- Small laws of the walk that every text of this seat uses: a row of bytes made a string, a one-byte string, a string cut and joined. No program is in sight. -/
namespace Ks
open Go Go.RowKit

/-- the post behind a variable, so that the walk does not reckon in it -/
theorem calls_by {P : Program} {f : FuncId} {args : Array Value} {w : World} {Q : Ending → World → Prop}
    (h : ∀ R : Ending → World → Prop, Hid (∀ e w', Q e w' → R e w') → Calls P f args w R) : Calls P f args w Q := h Q (Lib.hid fun _ _ h => h)

/-- a string value of these bytes -/
abbrev str (l : List UInt8) : Value := .string ⟨l.toArray⟩

theorem conv_row {P : Program} {src dst e : TypeId} {b cap : Nat} {w : World} {n : Nat} {f : Nat → Value} (l : List UInt8) (hs : P.underlying src = some (.slice e)) (he : P.underlying e = some (.int .u8)) (hd : P.underlying dst = some .string)
    (hrow : w.rowIs b e n f) (hn : n = l.length) (hf : ∀ j (hj : j < l.length), f j = .int .u8 (l[j].toNat : Int)) :
    (convert src dst (.slice (some ⟨b, 0, none⟩) n cap)).run P w = .ok (.string ⟨l.toArray⟩) w := by
  subst hn
  refine run_convert_bytes_back w src dst e _ cap l hs he hd (fun j hj => ?_)
  rw [← hf j hj, ← hrow.cell hj]
  unfold Addr.add
  split <;> simp_all

/-- a new block of one byte, made a string -/
theorem conv_one {P : Program} {src dst e : TypeId} (hs : P.underlying src = some (.slice e)) (he : P.underlying e = some (.int .u8)) (hd : P.underlying dst = some .string) (x : Int) (cap : Nat) (t : TypeId) (w : World) :
    (convert src dst (.slice (some ⟨w.heap.size, 0, none⟩) 1 cap)).run P (w.alloc (.cells #[.int .u8 x] t)) = .ok (.string ⟨#[UInt8.ofNat x.toNat]⟩) (w.alloc (.cells #[.int .u8 x] t)) := by
  rw [run_convert_bytes_string _ src dst e _ 1 cap hs he hd]
  have hl := run_loadCells_list (P := P) (w.alloc (.cells #[.int .u8 x] t)) ⟨w.heap.size, 0, none⟩ [Value.int .u8 x] (fun j v hj => by
    match j, hj with
    | 0, hj => simp at hj; subst hj; simp [Addr.add])
  rw [run_bytesToString _ _ 1 cap [x] (by simpa using hl)]
  rfl

theorem str_some (s : ByteArray) (h : 0 < s.size) : s.toList.isEmpty = false ∧ ¬ s.toList = [] := by
  have h1 : s.toList.length = s.size := by rw [ByteArray.toList_eq]; cases s; simp [ByteArray.size]
  cases h2 : s.toList with
  | nil => rw [h2] at h1; simp at h1; omega
  | cons a l => simp

theorem str_none (s : ByteArray) (h : s.size = 0) : s = ⟨#[]⟩ := by
  cases s with
  | mk d => congr 1; exact Array.eq_empty_of_size_eq_zero h

theorem data_length (s : ByteArray) : s.data.toList.length = s.size := by cases s; simp [ByteArray.size]

theorem ByteArray.mk_append_one (x : UInt8) (l : List UInt8) : (ByteArray.mk #[x] ++ ByteArray.mk l.toArray) = ByteArray.mk (x :: l).toArray := by
  have := ByteArray.mk_append_mk [x] l
  simpa using this

/-- A slice value reads, in a world, as these numbers. -/
def RdI (w : World) (v : Value) (l : List Int) : Prop :=
  ∃ a cap, v = .slice a l.length cap ∧ l.length ≤ cap ∧ ∀ (i : Nat) (x : Int), l[i]? = some x → (∃ b off, a = some ⟨b, off, none⟩ ∧ b < w.heap.size ∧ w.cell? ⟨b, off + i, none⟩ = some (.int .i64 x)) ∧ -9223372036854775808 ≤ x ∧ x ≤ 9223372036854775807

theorem RdI.below {w w' : World} {v : Value} {l : List Int} (h : RdI w v l) (hb : Below w.heap.size w w') : RdI w' v l := by
  obtain ⟨a, cap, rfl, hc, h⟩ := h
  refine ⟨a, cap, rfl, hc, fun i x hx => ?_⟩
  obtain ⟨⟨b, off, ha, hlt, hcell⟩, hr⟩ := h i x hx
  exact ⟨⟨b, off, ha, Nat.lt_of_lt_of_le hlt hb.size, (hb.cell (p := ⟨b, off + i, none⟩) hlt).trans hcell⟩, hr⟩

/-- the place of an element, for a walk -/
theorem RdI.cell {w : World} {a : Option Addr} {n cap : Nat} {l : List Int} (h : RdI w (.slice a n cap) l) (i : Nat) (hi : i < l.length) :
    ∃ b off, a = some ⟨b, off, none⟩ ∧ b < w.heap.size ∧ w.cell? ⟨b, off + i, none⟩ = some (.int .i64 l[i]) := by
  obtain ⟨a', cap', he, _, h⟩ := h
  cases he
  obtain ⟨⟨b, off, ha, hlt, hcell⟩, _⟩ := h i l[i] (List.getElem?_eq_getElem hi)
  exact ⟨b, off, ha, hlt, hcell⟩

theorem RdI.range {w : World} {v : Value} {l : List Int} (h : RdI w v l) (i : Nat) (hi : i < l.length) : -9223372036854775808 ≤ l[i] ∧ l[i] ≤ 9223372036854775807 := by
  obtain ⟨a', cap', he, _, h⟩ := h
  exact (h i l[i] (List.getElem?_eq_getElem hi)).2

theorem RdI.nil (w : World) : RdI w (.slice none 0 0) [] := ⟨none, 0, rfl, Nat.le_refl _, fun i x hx => by simp at hx⟩

/-- out of a row that the call owns -/
theorem RdI.owned {w : World} {B : Nat} {e : TypeId} {v : Value} {l : List Int} (h : w.ownsRow B e 1 v l.length (l.map (Value.int .i64))) (hr : ∀ x ∈ l, -9223372036854775808 ≤ x ∧ x ≤ 9223372036854775807) : RdI w v l := by
  rcases h.2 with ⟨rfl, hn⟩ | ⟨g, cap, cur, rfl, hg, hh, hcap, hm, hsz, htk⟩
  · have : l = [] := List.length_eq_zero_iff.1 hn
    subst this
    exact RdI.nil w
  · refine ⟨_, cap, rfl, hcap, fun i x hx => ⟨⟨g, 0, rfl, lt_of_block hh, ?_⟩, hr x (List.mem_of_getElem? hx)⟩⟩
    have hi : i < l.length := (List.getElem?_eq_some_iff.1 hx).1
    rw [Nat.zero_add, cell_of_row w g i cur e (0, 0) hh]
    have h1 : (cur.toList.take (l.length * 1))[i]? = some (.int .i64 x) := by rw [htk]; simp [hx]
    rw [List.getElem?_take, if_pos (by omega)] at h1
    simpa using h1

/-- out of a new block of numbers -/
theorem RdI.fresh {w : World} (l : List Int) (t : TypeId) (fr : Nat × Nat) (hr : ∀ x ∈ l, -9223372036854775808 ≤ x ∧ x ≤ 9223372036854775807) :
    RdI (w.alloc (.cells (l.map (Value.int .i64)).toArray t fr)) (.slice (some ⟨w.heap.size, 0, none⟩) l.length l.length) l := by
  refine ⟨_, _, rfl, Nat.le_refl _, fun i x hx => ⟨⟨w.heap.size, 0, rfl, by simp, ?_⟩, hr x (List.mem_of_getElem? hx)⟩⟩
  rw [Nat.zero_add, World.cell?_alloc_mark]
  simp [hx]

end Ks
/- Slices of numbers among a law's arguments: what they read as. No program is in sight. -/
namespace Ks
open Go Go.RowKit Go.ChangeShapes Go.WideShapes Go.ChangeAt
set_option linter.unusedVariables false

theorem add_place (b o i : Nat) : (⟨b, o, none⟩ : Addr).add i = ⟨b, o + i, none⟩ := by
  unfold Addr.add; split <;> simp_all

theorem spot_none {w : World} {a : Addr} {v : Value} (h : w.cell? a = some v) : a.spot = none := by
  unfold World.cell? at h
  split at h
  · cases hs : a.spot with
    | none => rfl
    | some x => simp [hs] at h
  · cases h

theorem rdI_open {H : Type} {enc : TypeId × Value → H} {P : Program} {T E : TypeId} {W : World} {base : Nat} {v : Value} {d : DataW H} {ps : List MemPlace}
    (hT : P.underlying T = some (.slice E)) (hE : P.underlying E = some (.int .i64)) (hc : P.cellsOf E = 1)
    (hok : Value.okWide P W .any base T v) (h : DataW.Trod enc P W 0 (fun _ => true) true T v d ps) : ∃ l : List Int, RdI W v l ∧ l.length ≤ maxLen := by
  obtain ⟨a0, len, cap, rfl⟩ := okWide_slice hT hok
  obtain ⟨fuel, hf⟩ := h
  rcases open_ints hT hE hc hf with ⟨hcs, hx⟩ | ⟨a, len', cap', zs, hcs, _, hl, hm, hz, hx, hcell, hwz⟩
  · simp only [Value.cells, List.cons.injEq, Value.slice.injEq, and_true] at hcs
    obtain ⟨rfl, rfl, rfl⟩ := hcs
    exact ⟨[], RdI.nil W, by simp⟩
  · simp only [Value.cells, List.cons.injEq, Value.slice.injEq, and_true] at hcs
    obtain ⟨rfl, rfl, rfl⟩ := hcs
    simp only [if_true] at hz
    have hlen : (zs.take len).length = len := by rw [List.length_take]; omega
    refine ⟨zs.take len, ⟨some a, cap, by rw [hlen], by omega, fun i x hx => ?_⟩, by rw [hlen]; omega⟩
    have hi : i < len := by have := (List.getElem?_eq_some_iff.1 hx).1; omega
    have hx' : zs[i]? = some x := by rw [List.getElem?_take, if_pos hi] at hx; exact hx
    have hc0 := hcell 0 (by omega)
    have hci := hcell i (by omega)
    have h0 : a.add 0 = a := by unfold Addr.add; simp
    rw [h0] at hc0
    obtain ⟨b, o, s⟩ := a
    have hs := spot_none hc0
    simp only at hs
    subst hs
    rw [add_place] at hci
    have hg : zs.getD i 0 = x := by simp [hx']
    rw [hg] at hci
    exact ⟨⟨b, o, rfl, World.block_lt_of_cell? _ _ hci, hci⟩, i64_range (hwz x (List.mem_of_getElem? hx'))⟩

end Ks
/- Plain facts about bytes and numbers; no program is in sight. -/
namespace Ks
open Go

/-- a number's bytes, so many, the highest first -/
def putL : Nat → Nat → List UInt8
  | 0, _ => []
  | k + 1, n => putL k (n / 256) ++ [UInt8.ofNat n]

@[simp] theorem putL_length (k n : Nat) : (putL k n).length = k := by
  induction k generalizing n with
  | zero => rfl
  | succ k ih => simp [putL, ih]

theorem putL_get (k n i : Nat) (h : i < k) : (putL k n)[i]? = some (UInt8.ofNat (n / 256 ^ (k - 1 - i))) := by
  induction k generalizing n i with
  | zero => omega
  | succ k ih =>
    simp only [putL]
    by_cases hi : i < k
    · rw [List.getElem?_append_left (by simpa using hi), ih _ _ hi, Nat.div_div_eq_div_mul, show k + 1 - 1 - i = (k - 1 - i) + 1 by omega, Nat.pow_succ']
    · have : i = k := by omega
      subst this
      rw [List.getElem?_append_right (by simp)]
      simp

theorem ofNat_mod (n : Nat) : UInt8.ofNat (n % 256) = UInt8.ofNat n := by
  apply UInt8.toNat.inj; simp

/-- one byte more ahead -/
theorem putL_succ' (k n : Nat) : putL (k + 1) n = UInt8.ofNat (n / 256 ^ k) :: putL k n := by
  apply List.ext_getElem?
  intro i
  match i with
  | 0 => rw [putL_get _ _ _ (by omega)]; simp
  | i + 1 =>
    simp only [List.getElem?_cons_succ]
    by_cases h : i < k
    · rw [putL_get _ _ _ (by omega), putL_get _ _ _ h, show k + 1 - 1 - (i + 1) = k - 1 - i by omega]
    · rw [List.getElem?_eq_none (by simp; omega), List.getElem?_eq_none (by simp; omega)]

/-- the cells that hold a number's bytes when k of them are laid, from the last one on -/
def putCell (n width k : Nat) (j : Nat) : Value :=
  if width - 1 - j < k then Value.int .u8 (((n / 2 ^ (8 * (width - 1 - j)) : Nat) : Int) % 256) else Value.int .u8 0

theorem putCell_done (n width j : Nat) (h : j < (putL width n).length) : putCell n width width j = .int .u8 (((putL width n)[j]).toNat : Int) := by
  have h' : j < width := by simpa using h
  have := putL_get width n j h'
  rw [List.getElem?_eq_getElem h] at this
  injection this with this
  rw [this, putCell, if_pos (by omega)]
  rw [show (256 : Nat) ^ (width - 1 - j) = 2 ^ (8 * (width - 1 - j)) by rw [Nat.pow_mul]]
  simp

theorem putCell_succ (n width k j : Nat) (hk : k < width) (hj : j < width) :
    (if j = width - 1 - k then Value.int .u8 ((n : Int) / 2 ^ (8 * k) % 256) else putCell n width k j) = putCell n width (k + 1) j := by
  unfold putCell
  by_cases h : j = width - 1 - k
  · subst h
    rw [if_pos rfl, if_pos (by omega), show width - 1 - (width - 1 - k) = k by omega]
    simp
  · rw [if_neg h]
    by_cases h2 : width - 1 - j < k
    · rw [if_pos h2, if_pos (by omega)]
    · rw [if_neg h2, if_neg (by omega)]

/-- may a number stand in so many bytes? -/
def putOk (n width : Int) : Bool := decide (1 ≤ width ∧ width ≤ 8 ∧ 0 ≤ n ∧ (width < 8 → n.toNat / 2 ^ (8 * width.toNat) = 0))
def putS (n width : Int) : ByteArray := if putOk n width then ⟨(putL width.toNat n.toNat).toArray⟩ else ⟨#[]⟩
def putE (n width : Int) : Int := if putOk n width then 0 else 2

/-- the number of bytes -/
def getN (l : List UInt8) : Nat := l.foldl (fun n b => n * 256 + b.toNat) 0

theorem getN_snoc (l : List UInt8) (b : UInt8) : getN (l ++ [b]) = getN l * 256 + b.toNat := by simp [getN]

theorem getN_foldl (l : List UInt8) (a : Nat) : l.foldl (fun n b => n * 256 + b.toNat) a = a * 256 ^ l.length + getN l := by
  induction l generalizing a with
  | nil => simp [getN]
  | cons b l ih =>
    simp only [List.foldl_cons, getN, List.length_cons]
    rw [ih, ih (0 * 256 + b.toNat), Nat.pow_succ', Nat.add_mul, Nat.add_mul]
    simp [Nat.mul_assoc, Nat.add_assoc]

theorem getN_cons (b : UInt8) (l : List UInt8) : getN (b :: l) = b.toNat * 256 ^ l.length + getN l := by
  have := getN_foldl l (0 * 256 + b.toNat)
  simpa [getN] using this

theorem getN_append (a b : List UInt8) : getN (a ++ b) = getN a * 256 ^ b.length + getN b := by
  rw [getN, List.foldl_append]; exact getN_foldl b _

theorem getN_lt (l : List UInt8) : getN l < 256 ^ l.length := by
  induction l with
  | nil => simp [getN]
  | cons b l ih =>
    rw [getN_cons, List.length_cons, Nat.pow_succ]
    have := b.toNat_lt
    have h2 : b.toNat * 256 ^ l.length ≤ 255 * 256 ^ l.length := Nat.mul_le_mul_right _ (by omega)
    omega

theorem getN_take_le (l : List UInt8) (k : Nat) : getN (l.take k) ≤ getN l := by
  have := getN_append (l.take k) (l.drop k)
  rw [List.take_append_drop] at this
  rw [this]
  have : 1 ≤ 256 ^ (l.drop k).length := Nat.one_le_pow _ _ (by omega)
  have := Nat.mul_le_mul_left (getN (l.take k)) this
  omega

theorem take_snoc (s : ByteArray) (k : Nat) (h : k < s.size) : s.data.toList.take (k + 1) = s.data.toList.take k ++ [s[k]] := by
  rw [List.take_succ_eq_append_getElem (by simpa using h)]; rfl

/-- is there a number of these bytes? -/
def getOk (l : List UInt8) : Bool := decide (1 ≤ l.length ∧ l.length ≤ 8 ∧ getN l ≤ 9223372036854775807)
def getV (s : ByteArray) : Int := if getOk s.data.toList then getN s.data.toList else 0
def getE (s : ByteArray) : Int := if getOk s.data.toList then 0 else 3

theorem getN_head (s : ByteArray) (h : s.size = 8) : getN s.data.toList ≤ 9223372036854775807 ↔ ¬ 127 < (s[0]'(by omega)).toNat := by
  obtain ⟨⟨l⟩⟩ := s
  have hl : l.length = 8 := h
  show getN l ≤ _ ↔ ¬ 127 < (l[0]'(by omega)).toNat
  match l, hl with
  | b :: l, hl =>
    simp only [List.getElem_cons_zero]
    rw [getN_cons]
    have := getN_lt l
    have hl7 : l.length = 7 := by simpa using hl
    rw [hl7] at this ⊢
    have h7 : (256 : Nat) ^ 7 = 72057594037927936 := by decide
    rw [h7] at this ⊢
    omega

theorem or8 (m b : Nat) (hm : m * 256 + b ≤ 9223372036854775807) (hb : b < 256) : bits .or .i64 ((m : Int) * 256) (b : Int) = (m : Int) * 256 + b :=
  bits_join .i64 63 (by decide) (fun n h0 h1 => by rw [IntKind.wrap_i64]; omega) 8 _ _ (by omega) (by omega) (by omega) (by omega) (by omega) (by omega)

/-- numbers' bytes, one behind the other: of the first k -/
def packTo (ws l : List Int) : Nat → List UInt8
  | 0 => []
  | k + 1 => packTo ws l k ++ putL (ws.getD k 0).toNat (l.getD k 0).toNat
def packOk (ws l : List Int) : Bool := decide (ws.length = l.length ∧ ∀ i, i < l.length → putOk (l.getD i 0) (ws.getD i 0) = true)
def packS (ws l : List Int) : ByteArray := if packOk ws l then ⟨(packTo ws l l.length).toArray⟩ else ⟨#[]⟩
def packE (ws l : List Int) : Int := if packOk ws l then 0 else 2

theorem putOk_width {n w : Int} (h : putOk n w = true) : 1 ≤ w ∧ w ≤ 8 ∧ 0 ≤ n := by
  simp only [putOk, decide_eq_true_eq] at h; omega

theorem packTo_length (ws l : List Int) (k : Nat) (h : ∀ i, i < k → putOk (l.getD i 0) (ws.getD i 0) = true) : (packTo ws l k).length ≤ 8 * k := by
  induction k with
  | zero => simp [packTo]
  | succ k ih =>
    have := putOk_width (h k (by omega))
    have := ih (fun i hi => h i (by omega))
    simp only [packTo, List.length_append, putL_length]
    omega

theorem strCells_mk (l : List UInt8) : Lib.strCells ⟨l.toArray⟩ = Lib.byteCells l := rfl
theorem byteCells_append (a b : List UInt8) : Lib.byteCells (a ++ b) = Lib.byteCells a ++ Lib.byteCells b := by simp [Lib.byteCells]
theorem byteCells_length (a : List UInt8) : (Lib.byteCells a).length = a.length := by simp [Lib.byteCells]

theorem get_cases (s : ByteArray) : (getOk s.data.toList = true ∧ 0 < s.size ∧ (s.size < 8 ∨ ∃ h : s.size = 8, ¬ 127 < (s[0]'(by omega)).toNat) ∧ getN s.data.toList ≤ 9223372036854775807) ∨
    (getOk s.data.toList = false ∧ (s.size = 0 ∨ 8 < s.size ∨ ∃ h : s.size = 8, 127 < (s[0]'(by omega)).toNat)) := by
  have hl := data_length s
  by_cases h : getOk s.data.toList = true
  · refine .inl ⟨h, ?_⟩
    simp only [getOk, decide_eq_true_eq, hl] at h
    refine ⟨by omega, ?_, h.2.2⟩
    by_cases h8 : s.size = 8
    · exact .inr ⟨h8, (getN_head s h8).1 h.2.2⟩
    · exact .inl (by omega)
  · refine .inr ⟨by simpa using h, ?_⟩
    simp only [getOk, decide_eq_true_eq, hl] at h
    by_cases h0 : s.size = 0
    · exact .inl h0
    by_cases h8 : 8 < s.size
    · exact .inr (.inl h8)
    have hn : ¬ getN s.data.toList ≤ 9223372036854775807 := fun hh => h ⟨by omega, by omega, hh⟩
    by_cases h9 : s.size = 8
    · refine .inr (.inr ⟨h9, ?_⟩)
      have := mt (getN_head s h9).2 hn
      omega
    · exfalso
      have h1 := getN_lt s.data.toList
      have h2 : 256 ^ s.data.toList.length ≤ 256 ^ 7 := Nat.pow_le_pow_right (by omega) (by omega)
      have h7 : (256 : Nat) ^ 7 = 72057594037927936 := by decide
      omega

end Ks
/- The digest, in plain numbers: no program is in sight. -/
namespace Ks
open Go Go.RowKit
set_option linter.unusedVariables false

/-- a number of 32 bits turned -/
def rotr (x n : Nat) : Nat := ((x >>> n) ||| (x <<< (32 - n))) % 4294967296
def chN (e f g : Nat) : Nat := (e &&& f) ||| ((4294967295 - e) &&& g)
def majN (a b c : Nat) : Nat := ((a &&& b) ||| (a &&& c)) ||| (b &&& c)
def sigS (x a b c : Nat) : Nat := (rotr x a ^^^ rotr x b) ^^^ (x >>> c)
def sigR (x a b c : Nat) : Nat := (rotr x a ^^^ rotr x b) ^^^ rotr x c

theorem rotr_lt (x n : Nat) : rotr x n < 4294967296 := Nat.mod_lt _ (by decide)
theorem shr_lt {x : Nat} (h : x < 4294967296) (n : Nat) : x >>> n < 4294967296 := Nat.lt_of_le_of_lt (Nat.shiftRight_le x n) h
theorem lt32 {x : Nat} : x < 4294967296 ↔ x < 2 ^ 32 := by rw [show (2:Nat) ^ 32 = 4294967296 from by decide]
theorem xor32 {a b : Nat} (ha : a < 4294967296) (hb : b < 4294967296) : a ^^^ b < 4294967296 := lt32.2 (Nat.xor_lt_two_pow (lt32.1 ha) (lt32.1 hb))
theorem or32 {a b : Nat} (ha : a < 4294967296) (hb : b < 4294967296) : a ||| b < 4294967296 := lt32.2 (Nat.or_lt_two_pow (lt32.1 ha) (lt32.1 hb))
theorem and32 {a b : Nat} (hb : b < 4294967296) : a &&& b < 4294967296 := lt32.2 (Nat.and_lt_two_pow _ (lt32.1 hb))
theorem sigS_lt {x a b c : Nat} (h : x < 4294967296) : sigS x a b c < 4294967296 := xor32 (xor32 (rotr_lt _ _) (rotr_lt _ _)) (shr_lt h _)
theorem sigR_lt {x a b c : Nat} : sigR x a b c < 4294967296 := xor32 (xor32 (rotr_lt _ _) (rotr_lt _ _)) (rotr_lt _ _)
theorem chN_lt {e f g : Nat} (hf : f < 4294967296) (hg : g < 4294967296) : chN e f g < 4294967296 := or32 (and32 hf) (and32 hg)
theorem majN_lt {a b c : Nat} (hb : b < 4294967296) (hc : c < 4294967296) : majN a b c < 4294967296 := or32 (or32 (and32 hb) (and32 hc)) (and32 hc)

theorem rot_parts (x n : Nat) (hx : x < 4294967296) : ((x <<< (32 - n)) % 4294967296) ||| (x >>> n) = rotr x n := by
  have e : (4294967296 : Nat) = 2 ^ 32 := by decide
  have hs := lt32.1 (shr_lt hx n)
  unfold rotr
  rw [e]
  apply Nat.eq_of_testBit_eq
  intro i
  rw [Nat.testBit_or, Nat.testBit_mod_two_pow, Nat.testBit_mod_two_pow, Nat.testBit_or]
  by_cases hi : i < 32
  · simp [hi, Bool.or_comm]
  · have : (x >>> n).testBit i = false := Nat.testBit_lt_two_pow (Nat.lt_of_lt_of_le hs (Nat.pow_le_pow_right (by decide) (by omega)))
    simp [hi, this]

theorem ch_parts (e f g : Nat) (he : e < 4294967296) (hg : g < 4294967296) : g ^^^ (e &&& (f ^^^ g)) = chN e f g := by
  unfold chN
  apply Nat.eq_of_testBit_eq
  intro i
  have h1 : (4294967295 - e) = 2 ^ 32 - (e + 1) := by rw [show (2:Nat) ^ 32 = 4294967296 from by decide]; omega
  rw [Nat.testBit_or, Nat.testBit_and, Nat.testBit_and, Nat.testBit_xor, Nat.testBit_and, Nat.testBit_xor, h1, Nat.testBit_two_pow_sub_succ (lt32.1 he)]
  by_cases hi : i < 32
  · simp [hi]; cases e.testBit i <;> cases f.testBit i <;> cases g.testBit i <;> rfl
  · have hgi : g.testBit i = false := Nat.testBit_lt_two_pow (Nat.lt_of_lt_of_le (lt32.1 hg) (Nat.pow_le_pow_right (by decide) (by omega)))
    have hei : e.testBit i = false := Nat.testBit_lt_two_pow (Nat.lt_of_lt_of_le (lt32.1 he) (Nat.pow_le_pow_right (by decide) (by omega)))
    simp [hi, hgi, hei]

theorem maj_parts (a b c : Nat) : (a &&& b) ||| (c &&& (a ||| b)) = majN a b c := by
  unfold majN
  apply Nat.eq_of_testBit_eq
  intro i
  simp only [Nat.testBit_or, Nat.testBit_and]
  cases a.testBit i <;> cases b.testBit i <;> cases c.testBit i <;> rfl

/-! ### the machine's numbers -/
theorem wraps_u32 (n : Int) (h₀ : 0 ≤ n) (h₁ : n < 2 ^ 32) : IntKind.u32.wrap n = n := by
  rw [show (2 : Int) ^ 32 = 4294967296 from by decide] at h₁
  simp [IntKind.wrap, IntKind.bits, IntKind.signed]; omega
theorem wraps_i64 (n : Int) (h₀ : 0 ≤ n) (h₁ : n < 2 ^ 63) : IntKind.i64.wrap n = n := by
  rw [show (2 : Int) ^ 63 = 9223372036854775808 from by decide] at h₁
  rw [IntKind.wrap_i64]; omega
theorem bits_xor_nat (k : IntKind) (j : Nat) (hj : j ≤ k.bits) (hk : ∀ n : Int, 0 ≤ n → n < 2 ^ j → k.wrap n = n) (a b : Nat) (ha : a < 2 ^ j) (hb : b < 2 ^ j) :
    bits .xor k a b = ((a ^^^ b : Nat) : Int) := by
  have hp : 2 ^ j ≤ 2 ^ k.bits := Nat.pow_le_pow_right (by decide) hj
  have ha' : a % 2 ^ k.bits = a := Nat.mod_eq_of_lt (Nat.lt_of_lt_of_le ha hp)
  have hb' : b % 2 ^ k.bits = b := Nat.mod_eq_of_lt (Nat.lt_of_lt_of_le hb hp)
  have cast : ∀ n : Nat, n < 2 ^ j → ((n : Nat) : Int) < 2 ^ j := fun n h => by exact_mod_cast h
  simp only [bits, BitVec.ofInt_natCast, BitVec.toNat_xor, BitVec.toNat_ofNat, ha', hb']
  exact hk _ (Int.natCast_nonneg _) (cast _ (Nat.xor_lt_two_pow ha hb))
theorem xor_u32 (a b : Nat) (ha : a < 4294967296) (hb : b < 4294967296) : bits .xor .u32 a b = ((a ^^^ b : Nat) : Int) := bits_xor_nat .u32 32 (by decide) wraps_u32 a b (lt32.1 ha) (lt32.1 hb)
theorem or_u32 (a b : Nat) (ha : a < 4294967296) (hb : b < 4294967296) : bits .or .u32 a b = ((a ||| b : Nat) : Int) := (bits_nat .u32 32 (by decide) wraps_u32 a b (lt32.1 ha) (lt32.1 hb)).2
theorem and_u32 (a b : Nat) (ha : a < 4294967296) (hb : b < 4294967296) : bits .and .u32 a b = ((a &&& b : Nat) : Int) := (bits_nat .u32 32 (by decide) wraps_u32 a b (lt32.1 ha) (lt32.1 hb)).1
theorem xor_i64 (a b : Nat) (ha : a < 2 ^ 63) (hb : b < 2 ^ 63) : bits .xor .i64 a b = ((a ^^^ b : Nat) : Int) := bits_xor_nat .i64 63 (by decide) wraps_i64 a b ha hb
theorem or_i64 (a b : Nat) (ha : a < 2 ^ 63) (hb : b < 2 ^ 63) : bits .or .i64 a b = ((a ||| b : Nat) : Int) := (bits_nat .i64 63 (by decide) wraps_i64 a b ha hb).2
theorem and_i64 (a b : Nat) (ha : a < 2 ^ 63) (hb : b < 2 ^ 63) : bits .and .i64 a b = ((a &&& b : Nat) : Int) := (bits_nat .i64 63 (by decide) wraps_i64 a b ha hb).1

/-! ### the sum -/
structure St where
  a : Nat
  b : Nat
  c : Nat
  d : Nat
  e : Nat
  f : Nat
  g : Nat
  h : Nat
deriving DecidableEq
def St.ok (s : St) : Prop := s.a < 4294967296 ∧ s.b < 4294967296 ∧ s.c < 4294967296 ∧ s.d < 4294967296 ∧ s.e < 4294967296 ∧ s.f < 4294967296 ∧ s.g < 4294967296 ∧ s.h < 4294967296
def St.list (s : St) : List Nat := [s.a, s.b, s.c, s.d, s.e, s.f, s.g, s.h]

/-- the next of a block's numbers -/
def wNext (W : List Nat) : Nat :=
  (W.getD (W.length - 16) 0 + sigS (W.getD (W.length - 15) 0) 7 18 3 + W.getD (W.length - 7) 0 + sigS (W.getD (W.length - 2) 0) 17 19 10) % 4294967296
/-- the number of four bytes of a block -/
def num4 (B : List UInt8) (i : Nat) : Nat := getN ((B.drop (4 * i)).take 4)
/-- a block's first numbers -/
def wordsN (B : List UInt8) : Nat → List Nat
  | 0 => []
  | n + 1 => wordsN B n ++ [if n < 16 then num4 B n else wNext (wordsN B n)]

def kays : List Nat := [
  0x428a2f98, 0x71374491, 0xb5c0fbcf, 0xe9b5dba5, 0x3956c25b, 0x59f111f1, 0x923f82a4, 0xab1c5ed5,
  0xd807aa98, 0x12835b01, 0x243185be, 0x550c7dc3, 0x72be5d74, 0x80deb1fe, 0x9bdc06a7, 0xc19bf174,
  0xe49b69c1, 0xefbe4786, 0x0fc19dc6, 0x240ca1cc, 0x2de92c6f, 0x4a7484aa, 0x5cb0a9dc, 0x76f988da,
  0x983e5152, 0xa831c66d, 0xb00327c8, 0xbf597fc7, 0xc6e00bf3, 0xd5a79147, 0x06ca6351, 0x14292967,
  0x27b70a85, 0x2e1b2138, 0x4d2c6dfc, 0x53380d13, 0x650a7354, 0x766a0abb, 0x81c2c92e, 0x92722c85,
  0xa2bfe8a1, 0xa81a664b, 0xc24b8b70, 0xc76c51a3, 0xd192e819, 0xd6990624, 0xf40e3585, 0x106aa070,
  0x19a4c116, 0x1e376c08, 0x2748774c, 0x34b0bcb5, 0x391c0cb3, 0x4ed8aa4a, 0x5b9cca4f, 0x682e6ff3,
  0x748f82ee, 0x78a5636f, 0x84c87814, 0x8cc70208, 0x90befffa, 0xa4506ceb, 0xbef9a3f7, 0xc67178f2]
def st0 : St := ⟨0x6a09e667, 0xbb67ae85, 0x3c6ef372, 0xa54ff53a, 0x510e527f, 0x9b05688c, 0x1f83d9ab, 0x5be0cd19⟩

def tN (s : St) (k w : Nat) : Nat := s.h + sigR s.e 6 11 25 + chN s.e s.f s.g + k + w
def uN (s : St) : Nat := sigR s.a 2 13 22 + majN s.a s.b s.c
def roundN (s : St) (k w : Nat) : St := ⟨(tN s k w + uN s) % 4294967296, s.a, s.b, s.c, (s.d + tN s k w) % 4294967296, s.e, s.f, s.g⟩
def roundsN (s : St) (W : List Nat) : Nat → St
  | 0 => s
  | n + 1 => roundN (roundsN s W n) (kays.getD n 0) (W.getD n 0)
def addN (x s : St) : St := ⟨(x.a + s.a) % 4294967296, (x.b + s.b) % 4294967296, (x.c + s.c) % 4294967296, (x.d + s.d) % 4294967296, (x.e + s.e) % 4294967296, (x.f + s.f) % 4294967296, (x.g + s.g) % 4294967296, (x.h + s.h) % 4294967296⟩
/-- the state that a block turns one to -/
def turnN (s : St) (B : List UInt8) : St := addN (roundsN s (wordsN B 64) 64) s

theorem getN4_lt (l : List UInt8) : getN (l.take 4) < 4294967296 := by
  have h := getN_lt (l.take 4)
  have h2 : (256 : Nat) ^ (l.take 4).length ≤ 256 ^ 4 := Nat.pow_le_pow_right (by decide) (by simp; omega)
  have h3 : (256 : Nat) ^ 4 = 4294967296 := by decide
  omega
theorem num4_lt (B : List UInt8) (i : Nat) : num4 B i < 4294967296 := getN4_lt _
theorem wordsN_length (B : List UInt8) (n : Nat) : (wordsN B n).length = n := by
  induction n with
  | zero => rfl
  | succ n ih => simp [wordsN, ih]
theorem wNext_lt (W : List Nat) : wNext W < 4294967296 := Nat.mod_lt _ (by decide)
theorem wordsN_lt (B : List UInt8) (n : Nat) : ∀ x ∈ wordsN B n, x < 4294967296 := by
  induction n with
  | zero => intro x hx; cases hx
  | succ n ih =>
    intro x hx
    rw [wordsN, List.mem_append, List.mem_singleton] at hx
    rcases hx with hx | rfl
    · exact ih x hx
    · split
      · exact num4_lt _ _
      · exact wNext_lt _
theorem getD_lt {l : List Nat} (h : ∀ x ∈ l, x < 4294967296) (i : Nat) : l.getD i 0 < 4294967296 := by
  rw [List.getD_eq_getElem?_getD]
  cases e : l[i]? with
  | none => simp
  | some x => exact h x (List.mem_of_getElem? e)
theorem kays_lt : ∀ x ∈ kays, x < 4294967296 := by decide
theorem st0_ok : st0.ok := by unfold St.ok; decide
theorem roundN_ok {s : St} (h : s.ok) (k w : Nat) : (roundN s k w).ok := by
  obtain ⟨h1, h2, h3, h4, h5, h6, h7, h8⟩ := h
  exact ⟨Nat.mod_lt _ (by decide), h1, h2, h3, Nat.mod_lt _ (by decide), h5, h6, h7⟩
theorem roundsN_ok {s : St} (h : s.ok) (W : List Nat) (n : Nat) : (roundsN s W n).ok := by
  induction n with
  | zero => exact h
  | succ n ih => exact roundN_ok ih _ _
theorem addN_ok (x s : St) : (addN x s).ok := by
  refine ⟨?_, ?_, ?_, ?_, ?_, ?_, ?_, ?_⟩ <;> exact Nat.mod_lt _ (by decide)
theorem turnN_ok (s : St) (B : List UInt8) : (turnN s B).ok := addN_ok _ _

/-- a state's bytes -/
def textL (s : St) : List UInt8 := putL 4 s.a ++ (putL 4 s.b ++ (putL 4 s.c ++ (putL 4 s.d ++ (putL 4 s.e ++ (putL 4 s.f ++ (putL 4 s.g ++ putL 4 s.h))))))
/-- the state that a text's blocks turn one to -/
def foldN (s : St) (l : List UInt8) : St :=
  if h : 64 ≤ l.length then foldN (turnN s (l.take 64)) (l.drop 64) else s
termination_by l.length
decreasing_by simp; omega
/-- what stands behind so many bytes -/
def padL (n : Nat) : List UInt8 := 128 :: (List.replicate (63 - (n + 8) % 64) 0 ++ putL 8 (8 * n))
/-- the sum -/
def shaL (l : List UInt8) : List UInt8 := textL (foldN st0 (l ++ padL l.length))

end Ks
/- A text's blocks, one by one: plain laws of the digest. No program is in sight. -/
namespace Ks
open Go Go.RowKit
set_option linter.unusedVariables false
theorem foldN_ge (s : St) (l : List UInt8) (h : 64 ≤ l.length) : foldN s l = foldN (turnN s (l.take 64)) (l.drop 64) := by
  rw [foldN]; simp [h]
theorem foldN_lt (s : St) (l : List UInt8) (h : l.length < 64) : foldN s l = s := by
  rw [foldN]; simp [show ¬ 64 ≤ l.length by omega]
/-- what is left behind whole blocks -/
def restL (l : List UInt8) : List UInt8 := l.drop (64 * (l.length / 64))
theorem restL_length (l : List UInt8) : (restL l).length = l.length % 64 := by simp only [restL, List.length_drop]; omega
theorem restL_lt (l : List UInt8) (h : l.length < 64) : restL l = l := by rw [restL, Nat.div_eq_of_lt h]; simp
theorem restL_ge (l : List UInt8) (h : 64 ≤ l.length) : restL l = restL (l.drop 64) := by
  rw [restL, restL, List.drop_drop, List.length_drop]; congr 1; omega
theorem foldN_append (B : List UInt8) : ∀ (n : Nat) (s : St) (A : List UInt8), A.length = n → foldN s (A ++ B) = foldN (foldN s A) (restL A ++ B) := by
  intro n
  induction n using Nat.strongRecOn with
  | _ n ih =>
    intro s A hA
    by_cases h : 64 ≤ A.length
    · rw [foldN_ge s A h, restL_ge A h, foldN_ge s (A ++ B) (by simp; omega), List.take_append_of_le_length h, List.drop_append_of_le_length h]
      exact ih (n - 64) (by omega) _ _ (by simp; omega)
    · rw [foldN_lt s A (by omega), restL_lt A (by omega)]
theorem restL_append (B : List UInt8) : ∀ (n : Nat) (A : List UInt8), A.length = n → restL (A ++ B) = restL (restL A ++ B) := by
  intro n
  induction n using Nat.strongRecOn with
  | _ n ih =>
    intro A hA
    by_cases h : 64 ≤ A.length
    · rw [restL_ge A h, restL_ge (A ++ B) (by simp; omega), List.drop_append_of_le_length h]
      exact ih (n - 64) (by omega) _ (by simp; omega)
    · rw [restL_lt A (by omega)]
theorem foldN_ok : ∀ (n : Nat) (s : St) (l : List UInt8), l.length = n → s.ok → (foldN s l).ok := by
  intro n
  induction n using Nat.strongRecOn with
  | _ n ih =>
    intro s l hl hs
    by_cases h : 64 ≤ l.length
    · rw [foldN_ge s l h]; exact ih (n - 64) (by omega) _ _ (by simp; omega) (turnN_ok _ _)
    · rw [foldN_lt s l (by omega)]; exact hs
theorem fold0_ok (l : List UInt8) : (foldN st0 l).ok := foldN_ok _ _ _ rfl st0_ok
theorem padL_length (n : Nat) : (padL n).length = 72 - (n + 8) % 64 := by simp [padL, putL_length]; omega
theorem padded (l : List UInt8) : (l ++ padL l.length).length % 64 = 0 := by rw [List.length_append, padL_length]; omega
theorem textL_length (s : St) : (textL s).length = 32 := by simp [textL, putL_length]
theorem shaL_length (l : List UInt8) : (shaL l).length = 32 := textL_length _
end Ks
/- Trees of hashes: by halves from above, and by levels from below: plain. -/
namespace Ks
open Go
set_option linter.unusedVariables false
def sha1 (l : List UInt8) : ByteArray := ⟨(shaL l).toArray⟩
theorem sha1_size (l : List UInt8) : (sha1 l).size = 32 := by show (shaL l).toArray.size = 32; simp [shaL_length]
def leafS (s : ByteArray) : ByteArray := sha1 (0 :: s.data.toList)
def insideL (a b : ByteArray) : List UInt8 := 1 :: (a.data.toList ++ b.data.toList)
def nodeS (a b : ByteArray) : ByteArray := sha1 (insideL a b)
def wholeL (l : List ByteArray) : Bool := l.all fun s => s.size == 32
/-- the greatest power of 2 below -/
def halfN (n : Nat) : Nat := 2 ^ (n - 1).log2
theorem half_spec (n : Nat) (h : 2 ≤ n) : ∃ j, halfN n = 2 ^ j ∧ 2 ^ j < n ∧ n ≤ 2 ^ (j + 1) := by
  refine ⟨(n - 1).log2, rfl, ?_, ?_⟩
  · have := Nat.log2_self_le (show n - 1 ≠ 0 by omega); omega
  · have := @Nat.lt_log2_self (n - 1); omega
theorem half_lt (n : Nat) (h : 2 ≤ n) : 0 < halfN n ∧ halfN n < n := by
  obtain ⟨j, e, h1, _⟩ := half_spec n h
  rw [e]
  exact ⟨Nat.two_pow_pos j, h1⟩
theorem half_of (n j : Nat) (h1 : 2 ^ j < n) (h2 : n ≤ 2 ^ (j + 1)) : halfN n = 2 ^ j := by
  have h3 : 1 ≤ 2 ^ j := Nat.two_pow_pos j
  obtain ⟨i, e, g1, g2⟩ := half_spec n (by omega)
  rw [e]
  have a : j < i + 1 := (Nat.pow_lt_pow_iff_right (a := 2) (by decide)).1 (by omega)
  have b : i < j + 1 := (Nat.pow_lt_pow_iff_right (a := 2) (by decide)).1 (by omega)
  rw [show i = j by omega]

/-- the root, by halves -/
def rootL (l : List ByteArray) : ByteArray :=
  if h : 2 ≤ l.length then nodeS (rootL (l.take (halfN l.length))) (rootL (l.drop (halfN l.length))) else if l.length = 1 then l.headD ⟨#[]⟩ else sha1 []
termination_by l.length
decreasing_by
  · have := half_lt l.length h; rw [List.length_take]; omega
  · have := half_lt l.length h; rw [List.length_drop]; omega
theorem root_two (l : List ByteArray) (h : 2 ≤ l.length) : rootL l = nodeS (rootL (l.take (halfN l.length))) (rootL (l.drop (halfN l.length))) := by rw [rootL, dif_pos h]
theorem root_one (a : ByteArray) : rootL [a] = a := by rw [rootL]; simp
theorem root_nil : rootL [] = sha1 [] := by rw [rootL]; simp
def pathL (l : List ByteArray) (i : Nat) : List ByteArray :=
  if h : 2 ≤ l.length then (if i < halfN l.length then pathL (l.take (halfN l.length)) i ++ [rootL (l.drop (halfN l.length))] else pathL (l.drop (halfN l.length)) (i - halfN l.length) ++ [rootL (l.take (halfN l.length))]) else []
termination_by l.length
decreasing_by
  · have := half_lt l.length h; rw [List.length_take]; omega
  · have := half_lt l.length h; rw [List.length_drop]; omega
theorem path_two (l : List ByteArray) (i : Nat) (h : 2 ≤ l.length) : pathL l i = if i < halfN l.length then pathL (l.take (halfN l.length)) i ++ [rootL (l.drop (halfN l.length))] else pathL (l.drop (halfN l.length)) (i - halfN l.length) ++ [rootL (l.take (halfN l.length))] := by rw [pathL, dif_pos h]
theorem path_low (l : List ByteArray) (i : Nat) (h : ¬ 2 ≤ l.length) : pathL l i = [] := by rw [pathL, dif_neg h]

/-- the level above one -/
def aboveL : List ByteArray → List ByteArray
  | a :: b :: l => nodeS a b :: aboveL l
  | [a] => [a]
  | [] => []
theorem above_length : ∀ l : List ByteArray, (aboveL l).length = (l.length + 1) / 2
  | [] => rfl
  | [a] => by rw [aboveL]; simp
  | a :: b :: l => by rw [aboveL, List.length_cons, above_length l]; simp only [List.length_cons]; omega
theorem above_append : ∀ (m : Nat) (a b : List ByteArray), a.length = 2 * m → aboveL (a ++ b) = aboveL a ++ aboveL b
  | 0, a, b, h => by obtain rfl : a = [] := List.length_eq_zero_iff.1 (by omega); rfl
  | m + 1, [], b, h => by simp at h
  | m + 1, [x], b, h => by simp at h; omega
  | m + 1, x :: y :: a, b, h => by
    simp only [List.length_cons] at h
    show nodeS x y :: aboveL (a ++ b) = nodeS x y :: aboveL a ++ aboveL b
    rw [above_append m a b (by omega)]; rfl
def upL : Nat → List ByteArray → List ByteArray
  | 0, l => l
  | m + 1, l => upL m (aboveL l)
theorem up_succ (m : Nat) (l : List ByteArray) : upL (m + 1) l = aboveL (upL m l) := by
  induction m generalizing l with
  | zero => rfl
  | succ m ih => rw [upL, ih, upL]
theorem up_one (m : Nat) (a : ByteArray) : upL m [a] = [a] := by
  induction m with
  | zero => rfl
  | succ m ih => exact ih
theorem up_add (m n : Nat) (l : List ByteArray) : upL (m + n) l = upL n (upL m l) := by
  induction m generalizing l with
  | zero => rw [Nat.zero_add]; rfl
  | succ m ih => rw [Nat.succ_add, upL, upL, ih]
theorem pow_half (j i : Nat) (h : i + 1 ≤ j) : 2 ^ (j - i) = 2 * 2 ^ (j - (i + 1)) := by
  rw [show j - i = (j - (i + 1)) + 1 by omega, Nat.pow_succ]; omega
theorem up_append (j : Nat) (a b : List ByteArray) (ha : a.length = 2 ^ j) : ∀ i, i ≤ j → upL i (a ++ b) = upL i a ++ upL i b ∧ (upL i a).length = 2 ^ (j - i) := by
  intro i
  induction i with
  | zero => exact fun _ => ⟨rfl, ha⟩
  | succ i ih =>
    intro h
    obtain ⟨e, hl⟩ := ih (by omega)
    rw [pow_half j i h] at hl
    rw [up_succ, up_succ, up_succ, e, above_append _ _ _ hl, above_length, hl]
    exact ⟨rfl, by omega⟩
/-- so many levels up there is the root alone -/
theorem up_root : ∀ (n : Nat) (l : List ByteArray) (m : Nat), l.length = n → 0 < n → n ≤ 2 ^ m → upL m l = [rootL l] := by
  intro n
  induction n using Nat.strongRecOn with
  | ind n ih =>
    intro l m hn h0 hm
    by_cases h1 : n = 1
    · subst h1
      match l, hn with
      | [a], _ => rw [up_one, root_one]
    · obtain ⟨j, e, g1, g2⟩ := half_spec n (by omega)
      have h2 : 2 ≤ l.length := by omega
      have h3 : 0 < 2 ^ j := Nat.two_pow_pos j
      have hjm : j < m := (Nat.pow_lt_pow_iff_right (a := 2) (by decide)).1 (by omega)
      have ht : (l.take (2 ^ j)).length = 2 ^ j := by rw [List.length_take]; omega
      have hd : (l.drop (2 ^ j)).length = n - 2 ^ j := by rw [List.length_drop]; omega
      have hj : upL (j + 1) l = [rootL l] := by
        have h4 := (up_append j (l.take (2 ^ j)) (l.drop (2 ^ j)) ht j (Nat.le_refl _)).1
        rw [List.take_append_drop] at h4
        rw [up_succ, h4, ih (2 ^ j) (by omega) _ j ht h3 (Nat.le_refl _), ih (n - 2 ^ j) (by omega) _ j hd (by omega) (by rw [Nat.pow_succ] at g2; omega), root_two l h2, hn, e]
        rfl
      rw [show m = (j + 1) + (m - (j + 1)) by omega, up_add, hj, up_one]
theorem root_above (l : List ByteArray) (h : 0 < l.length) : rootL (aboveL l) = rootL l := by
  obtain ⟨m, hm⟩ : ∃ m, l.length ≤ 2 ^ m := ⟨l.length, Nat.le_of_lt Nat.lt_two_pow_self⟩
  have h1 := up_root l.length l (m + 1) rfl h (by rw [Nat.pow_succ]; omega)
  have hl := above_length l
  have h2 := up_root (aboveL l).length (aboveL l) m rfl (by omega) (by omega)
  rw [upL, h2] at h1
  simpa using h1

/-- the place beside -/
def besideN (i : Nat) : Nat := if i % 2 = 0 then i + 1 else i - 1
def sibL (l : List ByteArray) (i : Nat) : List ByteArray := if besideN i < l.length then [l.getD (besideN i) ⟨#[]⟩] else []
/-- the path, by levels -/
def pathM : Nat → List ByteArray → Nat → List ByteArray
  | 0, _, _ => []
  | m + 1, l, i => sibL l i ++ pathM m (aboveL l) (i / 2)
theorem pathM_snoc (m : Nat) (l : List ByteArray) (i : Nat) : pathM (m + 1) l i = pathM m l i ++ sibL (upL m l) (i / 2 ^ m) := by
  induction m generalizing l i with
  | zero => simp [pathM, upL]
  | succ m ih =>
    rw [pathM, ih (aboveL l) (i / 2), pathM, upL, List.append_assoc, Nat.div_div_eq_div_mul, Nat.pow_succ, Nat.mul_comm]
theorem pathM_one (m : Nat) (a : ByteArray) : pathM m [a] 0 = [] := by
  induction m with
  | zero => rfl
  | succ m ih => rw [pathM]; show sibL [a] 0 ++ pathM m [a] 0 = []; rw [ih]; rfl
theorem sib_left (a b : List ByteArray) (i m : Nat) (h : a.length = 2 * m) (hi : i < a.length) : sibL (a ++ b) i = sibL a i := by
  have h1 : besideN i < a.length := by unfold besideN; split <;> omega
  unfold sibL
  rw [if_pos (by rw [List.length_append]; omega), if_pos h1]
  simp only [List.getD_eq_getElem?_getD]
  rw [List.getElem?_append_left h1]
theorem sib_right (a b : List ByteArray) (i m : Nat) (h : a.length = 2 * m) (hi : a.length ≤ i) : sibL (a ++ b) i = sibL b (i - a.length) := by
  have h1 : besideN i = a.length + besideN (i - a.length) := by
    unfold besideN
    rw [h] at hi ⊢
    by_cases e : i % 2 = 0
    · rw [if_pos e, if_pos (by omega)]; omega
    · rw [if_neg e, if_neg (by omega)]; omega
  unfold sibL
  by_cases h2 : besideN (i - a.length) < b.length
  · rw [if_pos (by rw [List.length_append]; omega), if_pos h2, h1]
    simp only [List.getD_eq_getElem?_getD]
    rw [List.getElem?_append_right (by omega), Nat.add_sub_cancel_left]
  · rw [if_neg (by rw [List.length_append]; omega), if_neg h2]
theorem pathM_left (j : Nat) : ∀ (t : Nat) (a b : List ByteArray) (i : Nat), t ≤ j → a.length = 2 ^ j → i < a.length → pathM t (a ++ b) i = pathM t a i := by
  induction j with
  | zero => intro t a b i ht ha hi; (obtain rfl : t = 0 := by omega); rfl
  | succ j ih =>
    intro t a b i ht ha hi
    match t, ht with
    | 0, _ => rfl
    | t + 1, ht =>
      have he : a.length = 2 * 2 ^ j := by rw [ha, Nat.pow_succ]; omega
      rw [pathM, pathM, sib_left a b i _ he hi, above_append _ _ _ he]
      rw [ih t (aboveL a) (aboveL b) (i / 2) (by omega) (by rw [above_length]; omega) (by rw [above_length]; omega)]
theorem pathM_right (j : Nat) : ∀ (t : Nat) (a b : List ByteArray) (i : Nat), t ≤ j → a.length = 2 ^ j → a.length ≤ i → pathM t (a ++ b) i = pathM t b (i - a.length) := by
  induction j with
  | zero => intro t a b i ht ha hi; (obtain rfl : t = 0 := by omega); rfl
  | succ j ih =>
    intro t a b i ht ha hi
    match t, ht with
    | 0, _ => rfl
    | t + 1, ht =>
      have he : a.length = 2 * 2 ^ j := by rw [ha, Nat.pow_succ]; omega
      rw [pathM, pathM, sib_right a b i _ he hi, above_append _ _ _ he]
      rw [ih t (aboveL a) (aboveL b) (i / 2) (by omega) (by rw [above_length]; omega) (by rw [above_length]; omega), above_length]
      congr 2
      omega
theorem pathM_eq : ∀ (n : Nat) (l : List ByteArray) (m i : Nat), l.length = n → i < n → n ≤ 2 ^ m → pathM m l i = pathL l i := by
  intro n
  induction n using Nat.strongRecOn with
  | ind n ih =>
    intro l m i hn hi hm
    by_cases h1 : n = 1
    · subst h1
      obtain rfl : i = 0 := by omega
      match l, hn with
      | [a], _ => rw [pathM_one, path_low _ _ (by simp)]
    · obtain ⟨j, e, g1, g2⟩ := half_spec n (by omega)
      have h2 : 2 ≤ l.length := by omega
      have h3 : 0 < 2 ^ j := Nat.two_pow_pos j
      have hp : 2 ^ (j + 1) = 2 * 2 ^ j := by rw [Nat.pow_succ]; omega
      have hjm : j < m := (Nat.pow_lt_pow_iff_right (a := 2) (by decide)).1 (by omega)
      have ht : (l.take (2 ^ j)).length = 2 ^ j := by rw [List.length_take]; omega
      have hd : (l.drop (2 ^ j)).length = n - 2 ^ j := by rw [List.length_drop]; omega
      have hup : upL j l = [rootL (l.take (2 ^ j)), rootL (l.drop (2 ^ j))] := by
        have h4 := (up_append j (l.take (2 ^ j)) (l.drop (2 ^ j)) ht j (Nat.le_refl _)).1
        rw [List.take_append_drop] at h4
        rw [h4, up_root (2 ^ j) _ j ht h3 (Nat.le_refl _), up_root (n - 2 ^ j) _ j hd (by omega) (by omega)]
        rfl
      have hj : pathM (j + 1) l i = pathL l i := by
        rw [pathM_snoc, hup, path_two l i h2, hn, e]
        by_cases hik : i < 2 ^ j
        · rw [if_pos hik, Nat.div_eq_of_lt hik]
          have h5 := pathM_left j j (l.take (2 ^ j)) (l.drop (2 ^ j)) i (Nat.le_refl _) ht (by omega)
          rw [List.take_append_drop] at h5
          rw [h5, ih (2 ^ j) (by omega) _ j i ht hik (Nat.le_refl _)]
          rfl
        · rw [if_neg hik, show i / 2 ^ j = 1 from Nat.div_eq_of_lt_le (by omega) (by omega)]
          have h5 := pathM_right j j (l.take (2 ^ j)) (l.drop (2 ^ j)) i (Nat.le_refl _) ht (by omega)
          rw [List.take_append_drop, ht] at h5
          rw [h5, ih (n - 2 ^ j) (by omega) _ j (i - 2 ^ j) hd (by omega) (by omega)]
          rfl
      have hz : i / 2 ^ (j + 1) = 0 := Nat.div_eq_of_lt (by omega)
      have hu : upL (j + 1) l = [rootL l] := up_root n l (j + 1) hn (by omega) g2
      have hmore : ∀ t, pathM (j + 1 + t) l i = pathM (j + 1) l i := by
        intro t
        induction t with
        | zero => rfl
        | succ t iht =>
          rw [← Nat.add_assoc, pathM_snoc, iht, up_add, hu, up_one]
          have : i / 2 ^ (j + 1 + t) = 0 := Nat.div_eq_of_lt (Nat.lt_of_lt_of_le (show i < 2 ^ (j + 1) by omega) (Nat.pow_le_pow_right (by decide) (by omega)))
          rw [this]
          show pathM (j + 1) l i ++ sibL [rootL l] 0 = _
          rw [show sibL [rootL l] 0 = [] from rfl, List.append_nil]
      rw [show m = j + 1 + (m - (j + 1)) by omega, hmore, hj]
end Ks
/- A node's text and its sum: plain. -/
namespace Ks
open Go
set_option linter.unusedVariables false
def insideS (a b : ByteArray) : ByteArray := ⟨(insideL a b).toArray⟩
theorem nodeS_size (a b : ByteArray) : (nodeS a b).size = 32 := sha1_size _
end Ks
/- Where a path leads a leaf: by levels and by halves; what two paths to one root tell. Plain. -/
namespace Ks
open Go
set_option linter.unusedVariables false
/-- on which side a level's own one stands (true: the left); none: none stands beside it -/
def dirN (n i : Nat) : Option Bool := if besideN i < n then some (decide (i % 2 = 0)) else none
def dirsM : Nat → Nat → Nat → List (Option Bool)
  | 0, _, _ => []
  | m + 1, n, i => dirN n i :: dirsM m ((n + 1) / 2) (i / 2)
def upN : Nat → Nat → Nat
  | 0, n => n
  | m + 1, n => upN m ((n + 1) / 2)
theorem upN_bounds (m n : Nat) : n ≤ 2 ^ m * upN m n ∧ 2 ^ m * upN m n < n + 2 ^ m := by
  induction m generalizing n with
  | zero => simp [upN]
  | succ m ih =>
    obtain ⟨h1, h2⟩ := ih ((n + 1) / 2)
    rw [upN, Nat.pow_succ, Nat.mul_comm (2 ^ m) 2, Nat.mul_assoc]
    omega
theorem dirsM_snoc (m n i : Nat) : dirsM (m + 1) n i = dirsM m n i ++ [dirN (upN m n) (i / 2 ^ m)] := by
  induction m generalizing n i with
  | zero => simp [dirsM, upN]
  | succ m ih =>
    rw [dirsM, ih, dirsM, upN, Nat.div_div_eq_div_mul, Nat.pow_succ, Nat.mul_comm (2 ^ m) 2]
    rfl
theorem dirs_left (j : Nat) : ∀ (t n i : Nat), t ≤ j → i < 2 ^ j → 2 ^ j ≤ n → dirsM t n i = dirsM t (2 ^ j) i := by
  induction j with
  | zero => intro t n i ht hi hn; (obtain rfl : t = 0 := by omega); rfl
  | succ j ih =>
    intro t n i ht hi hn
    match t, ht with
    | 0, _ => rfl
    | t + 1, ht =>
      have he : 2 ^ (j + 1) = 2 * 2 ^ j := by rw [Nat.pow_succ]; omega
      have hb : besideN i < 2 ^ (j + 1) := by unfold besideN; split <;> omega
      rw [dirsM, dirsM, ih t ((n + 1) / 2) (i / 2) (by omega) (by omega) (by omega), show (2 ^ (j + 1) + 1) / 2 = 2 ^ j by omega]
      congr 1
      unfold dirN
      rw [if_pos hb, if_pos (by omega)]
theorem dirs_right (j : Nat) : ∀ (t n i : Nat), t ≤ j → 2 ^ j ≤ i → 2 ^ j ≤ n → dirsM t n i = dirsM t (n - 2 ^ j) (i - 2 ^ j) := by
  induction j with
  | zero => intro t n i ht hi hn; (obtain rfl : t = 0 := by omega); rfl
  | succ j ih =>
    intro t n i ht hi hn
    match t, ht with
    | 0, _ => rfl
    | t + 1, ht =>
      have he : 2 ^ (j + 1) = 2 * 2 ^ j := by rw [Nat.pow_succ]; omega
      have hb : besideN i = 2 ^ (j + 1) + besideN (i - 2 ^ (j + 1)) := by
        unfold besideN
        by_cases e : i % 2 = 0
        · rw [if_pos e, if_pos (by omega)]; omega
        · rw [if_neg e, if_neg (by omega)]; omega
      have hm : (i % 2 = 0) = ((i - 2 ^ (j + 1)) % 2 = 0) := by rw [eq_iff_iff]; omega
      rw [dirsM, dirsM, ih t ((n + 1) / 2) (i / 2) (by omega) (by omega) (by omega), show (n + 1) / 2 - 2 ^ j = (n - 2 ^ (j + 1) + 1) / 2 by omega, show i / 2 - 2 ^ j = (i - 2 ^ (j + 1)) / 2 by omega]
      congr 1
      unfold dirN
      simp only [hm]
      by_cases h : besideN (i - 2 ^ (j + 1)) < n - 2 ^ (j + 1)
      · rw [if_pos (by omega), if_pos h]
      · rw [if_neg (by omega), if_neg h]
def sidesM (m n i : Nat) : List Bool := (dirsM m n i).filterMap id
/-- the same by halves, from below -/
def sidesH (n i : Nat) : List Bool :=
  if h : 2 ≤ n then (if i < halfN n then sidesH (halfN n) i ++ [true] else sidesH (n - halfN n) (i - halfN n) ++ [false]) else []
termination_by n
decreasing_by
  · have := half_lt n h; omega
  · have := half_lt n h; omega
theorem sides_two (n i : Nat) (h : 2 ≤ n) : sidesH n i = if i < halfN n then sidesH (halfN n) i ++ [true] else sidesH (n - halfN n) (i - halfN n) ++ [false] := by rw [sidesH, dif_pos h]
theorem sides_low (n i : Nat) (h : ¬ 2 ≤ n) : sidesH n i = [] := by rw [sidesH, dif_neg h]
theorem sidesM_one (m : Nat) : sidesM m 1 0 = [] := by
  induction m with
  | zero => rfl
  | succ m ih => exact ih
theorem sidesM_zero (m i : Nat) : sidesM m 0 i = [] := by
  induction m generalizing i with
  | zero => rfl
  | succ m ih => exact ih (i / 2)
theorem sidesM_snoc (m n i : Nat) : sidesM (m + 1) n i = sidesM m n i ++ [dirN (upN m n) (i / 2 ^ m)].filterMap id := by
  unfold sidesM
  rw [dirsM_snoc, List.filterMap_append]
theorem sidesM_eq : ∀ (n m i : Nat), i < n → n ≤ 2 ^ m → sidesM m n i = sidesH n i := by
  intro n
  induction n using Nat.strongRecOn with
  | ind n ih =>
    intro m i hi hm
    by_cases h1 : n = 1
    · subst h1
      obtain rfl : i = 0 := by omega
      rw [sidesM_one, sides_low _ _ (by omega)]
    · obtain ⟨j, e, g1, g2⟩ := half_spec n (by omega)
      have h3 : 0 < 2 ^ j := Nat.two_pow_pos j
      have hp : 2 ^ (j + 1) = 2 * 2 ^ j := by rw [Nat.pow_succ]; omega
      have hjm : j < m := (Nat.pow_lt_pow_iff_right (a := 2) (by decide)).1 (by omega)
      have hu : upN j n = 2 := by
        obtain ⟨a, b⟩ := upN_bounds j n
        have h4 : ¬ upN j n ≤ 1 := fun h => by
          have := Nat.mul_le_mul_left (2 ^ j) h
          omega
        have h5 : ¬ 3 ≤ upN j n := fun h => by
          have := Nat.mul_le_mul_left (2 ^ j) h
          omega
        omega
      have hj : sidesM (j + 1) n i = sidesH n i := by
        rw [sidesM_snoc, hu, sides_two n i (by omega), e]
        by_cases hik : i < 2 ^ j
        · rw [if_pos hik, Nat.div_eq_of_lt hik, ← ih (2 ^ j) (by omega) j i hik (Nat.le_refl _)]
          unfold sidesM
          rw [dirs_left j j n i (Nat.le_refl _) hik (by omega)]
          rfl
        · rw [if_neg hik, show i / 2 ^ j = 1 from Nat.div_eq_of_lt_le (by omega) (by omega), ← ih (n - 2 ^ j) (by omega) j (i - 2 ^ j) (by omega) (by omega)]
          unfold sidesM
          rw [dirs_right j j n i (Nat.le_refl _) (by omega) (by omega)]
          rfl
      have hmore : ∀ t, sidesM (j + 1 + t) n i = sidesM (j + 1) n i := by
        intro t
        induction t with
        | zero => rfl
        | succ t iht =>
          have hu1 : upN (j + 1 + t) n = 1 := by
            obtain ⟨a, b⟩ := upN_bounds (j + 1 + t) n
            have hle : 2 ^ (j + 1) ≤ 2 ^ (j + 1 + t) := Nat.pow_le_pow_right (by decide) (by omega)
            have h4 : ¬ upN (j + 1 + t) n ≤ 0 := fun h => by
              have := Nat.mul_le_mul_left (2 ^ (j + 1 + t)) h
              omega
            have h5 : ¬ 2 ≤ upN (j + 1 + t) n := fun h => by
              have := Nat.mul_le_mul_left (2 ^ (j + 1 + t)) h
              omega
            omega
          have hz : i / 2 ^ (j + 1 + t) = 0 := Nat.div_eq_of_lt (Nat.lt_of_lt_of_le (show i < 2 ^ (j + 1) by omega) (Nat.pow_le_pow_right (by decide) (by omega)))
          rw [← Nat.add_assoc, sidesM_snoc, iht, hu1, hz]
          show sidesM (j + 1) n i ++ [] = _
          rw [List.append_nil]
      rw [show m = j + 1 + (m - (j + 1)) by omega, hmore, hj]
theorem sidesM_le (m n i : Nat) : (sidesM m n i).length ≤ m := by
  have : ∀ m n i, (dirsM m n i).length = m := by
    intro m
    induction m with
    | zero => intros; rfl
    | succ m ih => intro n i; rw [dirsM, List.length_cons, ih]
  exact Nat.le_trans (List.length_filterMap_le _ _) (Nat.le_of_eq (this m n i))

/-- where a path leads, one hash for each side -/
def foldU : List Bool → ByteArray → List ByteArray → ByteArray
  | s :: ss, x, p :: ps => foldU ss (if s then nodeS x p else nodeS p x) ps
  | _, x, _ => x
theorem foldU_nil (x : ByteArray) (ps : List ByteArray) : foldU [] x ps = x := by cases ps <;> rfl
theorem foldU_snoc (ss : List Bool) (s : Bool) (x : ByteArray) (ps : List ByteArray) (p : ByteArray) (h : ss.length = ps.length) :
    foldU (ss ++ [s]) x (ps ++ [p]) = if s then nodeS (foldU ss x ps) p else nodeS p (foldU ss x ps) := by
  induction ss generalizing x ps with
  | nil =>
    obtain rfl : ps = [] := List.length_eq_zero_iff.1 h.symm
    rfl
  | cons t ss ih =>
    match ps, h with
    | q :: ps, h => exact ih _ ps (by simpa using h)
theorem foldU_size (ss : List Bool) (x : ByteArray) (ps : List ByteArray) (h : x.size = 32) : (foldU ss x ps).size = 32 := by
  induction ss generalizing x ps with
  | nil => rw [foldU_nil]; exact h
  | cons s ss ih =>
    match ps with
    | [] => exact h
    | p :: ps => exact ih _ ps (by split <;> exact nodeS_size _ _)
def upS (n i : Nat) (x : ByteArray) (ps : List ByteArray) : ByteArray := foldU (sidesH n i) x ps
theorem up_low (n i : Nat) (x : ByteArray) (ps : List ByteArray) (h : ¬ 2 ≤ n) : upS n i x ps = x := by rw [upS, sides_low n i h, foldU_nil]
theorem up_left (n i : Nat) (x : ByteArray) (ps : List ByteArray) (p : ByteArray) (h : 2 ≤ n) (hi : i < halfN n) (hl : (ps ++ [p]).length = (sidesH n i).length) :
    upS n i x (ps ++ [p]) = nodeS (upS (halfN n) i x ps) p ∧ ps.length = (sidesH (halfN n) i).length := by
  rw [sides_two n i h, if_pos hi] at hl
  simp only [List.length_append, List.length_singleton] at hl
  rw [upS, sides_two n i h, if_pos hi, foldU_snoc _ _ _ _ _ (by omega)]
  exact ⟨rfl, by omega⟩
theorem up_right (n i : Nat) (x : ByteArray) (ps : List ByteArray) (p : ByteArray) (h : 2 ≤ n) (hi : ¬ i < halfN n) (hl : (ps ++ [p]).length = (sidesH n i).length) :
    upS n i x (ps ++ [p]) = nodeS p (upS (n - halfN n) (i - halfN n) x ps) ∧ ps.length = (sidesH (n - halfN n) (i - halfN n)).length := by
  rw [sides_two n i h, if_neg hi] at hl
  simp only [List.length_append, List.length_singleton] at hl
  rw [upS, sides_two n i h, if_neg hi, foldU_snoc _ _ _ _ _ (by omega)]
  exact ⟨rfl, by omega⟩
/-- a leaf's own path leads it to the root -/
theorem path_leads : ∀ (n : Nat) (l : List ByteArray) (i : Nat) (x : ByteArray), l.length = n → l[i]? = some x → upS n i x (pathL l i) = rootL l ∧ (pathL l i).length = (sidesH n i).length := by
  intro n
  induction n using Nat.strongRecOn with
  | ind n ih =>
    intro l i x hn hx
    have hi : i < l.length := (List.getElem?_eq_some_iff.1 hx).1
    by_cases h : 2 ≤ n
    · have hh := half_lt n h
      have h2 : 2 ≤ l.length := by omega
      rw [path_two l i h2, root_two l h2, hn]
      have ht : (l.take (halfN n)).length = halfN n := by rw [List.length_take]; omega
      have hd : (l.drop (halfN n)).length = n - halfN n := by rw [List.length_drop]; omega
      by_cases hik : i < halfN n
      · rw [if_pos hik]
        obtain ⟨a, b⟩ := ih (halfN n) (by omega) (l.take (halfN n)) i x ht (by rw [List.getElem?_take, if_pos hik]; exact hx)
        have hl : (pathL (l.take (halfN n)) i ++ [rootL (l.drop (halfN n))]).length = (sidesH n i).length := by
          rw [sides_two n i h, if_pos hik]; simp [b]
        exact ⟨by rw [(up_left n i x _ _ h hik hl).1, a], hl⟩
      · rw [if_neg hik]
        obtain ⟨a, b⟩ := ih (n - halfN n) (by omega) (l.drop (halfN n)) (i - halfN n) x hd (by rw [List.getElem?_drop, show halfN n + (i - halfN n) = i by omega]; exact hx)
        have hl : (pathL (l.drop (halfN n)) (i - halfN n) ++ [rootL (l.take (halfN n))]).length = (sidesH n i).length := by
          rw [sides_two n i h, if_neg hik]; simp [b]
        exact ⟨by rw [(up_right n i x _ _ h hik hl).1, a], hl⟩
    · match l, hn, hx with
      | [], hn, hx => simp at hx
      | [a], hn, hx =>
        obtain rfl : i = 0 := by simp at hi; exact hi
        rw [up_low _ _ _ _ h, path_low _ _ (by simp), root_one, sides_low _ _ h]
        simp at hx
        exact ⟨hx.symm, rfl⟩
      | a :: b :: l, hn, hx => simp at hn; omega
theorem path_whole : ∀ (n : Nat) (l : List ByteArray) (i : Nat), l.length = n → wholeL l = true → i < n → wholeL (pathL l i) = true ∧ (rootL l).size = 32 := by
  intro n
  induction n using Nat.strongRecOn with
  | ind n ih =>
    intro l i hn hw hi
    have hw' : ∀ s ∈ l, s.size = 32 := by simpa [wholeL] using hw
    by_cases h : 2 ≤ n
    · have hh := half_lt n h
      have h2 : 2 ≤ l.length := by omega
      rw [path_two l i h2, root_two l h2, hn]
      have ht : (l.take (halfN n)).length = halfN n := by rw [List.length_take]; omega
      have hd : (l.drop (halfN n)).length = n - halfN n := by rw [List.length_drop]; omega
      have w1 : wholeL (l.take (halfN n)) = true := by simp only [wholeL, List.all_eq_true, beq_iff_eq]; exact fun s hs => hw' s (List.mem_of_mem_take hs)
      have w2 : wholeL (l.drop (halfN n)) = true := by simp only [wholeL, List.all_eq_true, beq_iff_eq]; exact fun s hs => hw' s (List.mem_of_mem_drop hs)
      refine ⟨?_, nodeS_size _ _⟩
      have r1 := (ih (halfN n) (by omega) _ 0 ht w1 (by omega)).2
      have r2 := (ih (n - halfN n) (by omega) _ 0 hd w2 (by omega)).2
      by_cases hik : i < halfN n
      · rw [if_pos hik]
        have := (ih (halfN n) (by omega) _ i ht w1 hik).1
        simp only [wholeL, List.all_append, List.all_cons, List.all_nil, Bool.and_true, Bool.and_eq_true, beq_iff_eq] at this ⊢
        exact ⟨this, r2⟩
      · rw [if_neg hik]
        have := (ih (n - halfN n) (by omega) _ (i - halfN n) hd w2 (by omega)).1
        simp only [wholeL, List.all_append, List.all_cons, List.all_nil, Bool.and_true, Bool.and_eq_true, beq_iff_eq] at this ⊢
        exact ⟨this, r1⟩
    · match l, hn with
      | [], hn => simp at hn; omega
      | [a], hn => rw [path_low _ _ (by simp), root_one]; exact ⟨rfl, hw' a (by simp)⟩
      | a :: b :: l, hn => simp at hn; omega

/-- one step up -/
structure StepG where
  i : Nat
  n : Nat
  a : ByteArray
  b : ByteArray
def pairS (s : Bool) (x p : ByteArray) : ByteArray × ByteArray := if s then (x, p) else (p, x)
/-- the steps up, where the path leads, and what is left of it; none: it is too short -/
def climbO : Nat → Nat → Nat → ByteArray → List ByteArray → Option (List StepG × ByteArray × List ByteArray)
  | 0, _, _, x, ps => some ([], x, ps)
  | m + 1, n, i, x, ps =>
    if n ≤ 1 then some ([], x, ps) else
    match dirN n i with
    | none => (climbO m ((n + 1) / 2) (i / 2) x ps).map fun r => (⟨i, n, ⟨#[]⟩, ⟨#[]⟩⟩ :: r.1, r.2)
    | some s =>
      match ps with
      | [] => none
      | p :: ps => (climbO m ((n + 1) / 2) (i / 2) (nodeS (pairS s x p).1 (pairS s x p).2) ps).map fun r => (⟨i, n, (pairS s x p).1, (pairS s x p).2⟩ :: r.1, r.2)
section
variable {m n i : Nat} {x p : ByteArray} {ps : List ByteArray} {s : Bool}
theorem climb_low (h : n ≤ 1) : climbO (m + 1) n i x ps = some ([], x, ps) := by rw [climbO, if_pos h]
theorem climb_none (h : ¬ n ≤ 1) (hd : dirN n i = none) : climbO (m + 1) n i x ps = (climbO m ((n + 1) / 2) (i / 2) x ps).map fun r => (⟨i, n, ⟨#[]⟩, ⟨#[]⟩⟩ :: r.1, r.2) := by rw [climbO, if_neg h, hd]
theorem climb_nil (h : ¬ n ≤ 1) (hd : dirN n i = some s) : climbO (m + 1) n i x [] = none := by rw [climbO, if_neg h, hd]
theorem climb_some (h : ¬ n ≤ 1) (hd : dirN n i = some s) : climbO (m + 1) n i x (p :: ps) = (climbO m ((n + 1) / 2) (i / 2) (nodeS (pairS s x p).1 (pairS s x p).2) ps).map fun r => (⟨i, n, (pairS s x p).1, (pairS s x p).2⟩ :: r.1, r.2) := by rw [climbO, if_neg h, hd]
end
theorem node_pair (s : Bool) (x p : ByteArray) : nodeS (pairS s x p).1 (pairS s x p).2 = if s then nodeS x p else nodeS p x := by cases s <;> rfl
theorem climb_spec (m : Nat) : ∀ (n i : Nat) (x : ByteArray) (ps : List ByteArray), i < n → 
    (ps.length < (sidesM m n i).length → climbO m n i x ps = none) ∧ ((sidesM m n i).length ≤ ps.length → ∃ st, climbO m n i x ps = some (st, foldU (sidesM m n i) x ps, ps.drop (sidesM m n i).length)) := by
  induction m with
  | zero => intro n i x ps hi; exact ⟨fun h => absurd h (by simp [sidesM, dirsM]), fun _ => ⟨[], by simp [climbO, sidesM, dirsM, foldU_nil]⟩⟩
  | succ m ih =>
    intro n i x ps hi
    by_cases h1 : n ≤ 1
    · obtain rfl : n = 1 := by omega
      obtain rfl : i = 0 := by omega
      rw [sidesM_one]
      exact ⟨fun h => absurd h (by simp), fun _ => ⟨[], by rw [climb_low (by omega), foldU_nil]; rfl⟩⟩
    · have hs : sidesM (m + 1) n i = (match dirN n i with | none => sidesM m ((n + 1) / 2) (i / 2) | some s => s :: sidesM m ((n + 1) / 2) (i / 2)) := by
        unfold sidesM
        rw [dirsM]
        cases dirN n i <;> rfl
      rw [hs]
      cases hd : dirN n i with
      | none =>
        obtain ⟨a, b⟩ := ih ((n + 1) / 2) (i / 2) x ps (by omega)
        rw [climb_none h1 hd]
        refine ⟨fun h => ?_, fun h => ?_⟩
        · rw [a h]; rfl
        · obtain ⟨st, e⟩ := b h
          exact ⟨⟨i, n, ⟨#[]⟩, ⟨#[]⟩⟩ :: st, by rw [e]; rfl⟩
      | some s =>
        match ps with
        | [] => exact ⟨fun _ => climb_nil h1 hd, fun h => absurd h (by simp)⟩
        | p :: ps =>
          obtain ⟨a, b⟩ := ih ((n + 1) / 2) (i / 2) (nodeS (pairS s x p).1 (pairS s x p).2) ps (by omega)
          rw [climb_some h1 hd]
          refine ⟨fun h => ?_, fun h => ?_⟩
          · rw [a (by simpa using h)]; rfl
          · obtain ⟨st, e⟩ := b (by simpa using h)
            exact ⟨⟨i, n, (pairS s x p).1, (pairS s x p).2⟩ :: st, by rw [e, node_pair]; rfl⟩

def clashes (s t : StepG) : Bool := decide (s.a ≠ ⟨#[]⟩ ∧ (s.a ≠ t.a ∨ s.b ≠ t.b) ∧ nodeS s.a s.b = nodeS t.a t.b)
/-- the first level at which two paths clash -/
def clashL : List StepG → List StepG → Option (StepG × StepG)
  | s :: l, t :: r => if clashes s t then some (s, t) else clashL l r
  | _, _ => none
def fits (s : StepG) : Prop := (s.a = ⟨#[]⟩ ∧ s.b = ⟨#[]⟩) ∨ (s.a.size = 32 ∧ s.b.size = 32)
theorem clash_there (m : Nat) : ∀ (n i : Nat) (x y : ByteArray) (ps qs : List ByteArray) (st su : List StepG) (r : ByteArray) (ps' qs' : List ByteArray), n ≤ 2 ^ m → x.size = 32 → y.size = 32 → wholeL ps = true → wholeL qs = true →
    climbO m n i x ps = some (st, r, ps') → climbO m n i y qs = some (su, r, qs') →
    st.length = su.length ∧ (x ≠ y → ∃ s t, clashL st su = some (s, t)) ∧ (∀ s t, clashL st su = some (s, t) → clashes s t = true ∧ s.a.size = 32 ∧ s.b.size = 32 ∧ (t.a.size = 32 ∧ t.b.size = 32 ∨ False)) := by
  induction m with
  | zero =>
    intro n i x y ps qs st su r ps' qs' hn hx hy hp hq h1 h2
    simp only [climbO, Option.some.injEq, Prod.mk.injEq] at h1 h2
    obtain ⟨rfl, rfl, rfl⟩ := h1
    obtain ⟨rfl, rfl, rfl⟩ := h2
    exact ⟨rfl, fun h => absurd rfl h, fun s t h => by simp [clashL] at h⟩
  | succ m ih =>
    intro n i x y ps qs st su r ps' qs' hn hx hy hp hq h1 h2
    by_cases hn1 : n ≤ 1
    · rw [climb_low hn1] at h1 h2
      simp only [Option.some.injEq, Prod.mk.injEq] at h1 h2
      obtain ⟨rfl, rfl, rfl⟩ := h1
      obtain ⟨rfl, rfl, rfl⟩ := h2
      exact ⟨rfl, fun h => absurd rfl h, fun s t h => by simp [clashL] at h⟩
    · have hn' : (n + 1) / 2 ≤ 2 ^ m := by rw [Nat.pow_succ] at hn; omega
      cases hd : dirN n i with
      | none =>
        rw [climb_none hn1 hd] at h1 h2
        simp only [Option.map_eq_some_iff, Prod.mk.injEq] at h1 h2
        obtain ⟨⟨st1, r1⟩, e1, rfl, h1⟩ := h1
        obtain ⟨⟨su1, r2⟩, e2, rfl, h2⟩ := h2
        simp only at h1 h2
        subst h1
        subst h2
        obtain ⟨a, b, c⟩ := ih _ _ _ _ _ _ _ _ _ _ _ hn' hx hy hp hq e1 e2
        have hno : clashes ⟨i, n, ⟨#[]⟩, ⟨#[]⟩⟩ ⟨i, n, ⟨#[]⟩, ⟨#[]⟩⟩ = false := by simp [clashes]
        refine ⟨by simp [a], fun h => ?_, fun s t h => ?_⟩
        · rw [clashL, hno]; exact b h
        · rw [clashL, hno] at h; exact c s t h
      | some d =>
        match ps, qs, hp, hq, h1, h2 with
        | [], _, _, _, h1, _ => rw [climb_nil hn1 hd] at h1; cases h1
        | _ :: _, [], _, _, _, h2 => rw [climb_nil hn1 hd] at h2; cases h2
        | p :: ps, q :: qs, hp, hq, h1, h2 =>
          rw [climb_some hn1 hd] at h1 h2
          simp only [Option.map_eq_some_iff, Prod.mk.injEq] at h1 h2
          obtain ⟨⟨st1, r1⟩, e1, rfl, g1⟩ := h1
          obtain ⟨⟨su1, r2⟩, e2, rfl, g2⟩ := h2
          simp only at g1 g2
          subst g1
          subst g2
          simp only [wholeL, List.all_cons, Bool.and_eq_true, beq_iff_eq] at hp hq
          obtain ⟨a, b, c⟩ := ih _ _ _ _ _ _ _ _ _ _ _ hn' (nodeS_size _ _) (nodeS_size _ _) hp.2 hq.2 e1 e2
          have sz : ∀ (d : Bool) (x p : ByteArray), x.size = 32 → p.size = 32 → (pairS d x p).1.size = 32 ∧ (pairS d x p).2.size = 32 := fun d x p h1 h2 => by cases d <;> simp [pairS, h1, h2]
          have s1 := sz d x p hx hp.1
          have s2 := sz d y q hy hq.1
          have h0 : (pairS d x p).1 ≠ ⟨#[]⟩ := fun e => by have := s1.1; rw [e] at this; exact absurd this (by decide)
          refine ⟨by simp [a], fun h => ?_, fun s t h => ?_⟩
          · rw [clashL]
            by_cases hc : clashes ⟨i, n, (pairS d x p).1, (pairS d x p).2⟩ ⟨i, n, (pairS d y q).1, (pairS d y q).2⟩ = true
            · rw [if_pos hc]; exact ⟨_, _, rfl⟩
            · rw [if_neg hc]
              refine b fun e => hc ?_
              simp only [clashes, decide_eq_true_eq]
              refine ⟨h0, ?_, e⟩
              cases d
              · exact .inr fun e => h e
              · exact .inl fun e => h e
          · rw [clashL] at h
            by_cases hc : clashes ⟨i, n, (pairS d x p).1, (pairS d x p).2⟩ ⟨i, n, (pairS d y q).1, (pairS d y q).2⟩ = true
            · rw [if_pos hc] at h
              simp only [Option.some.injEq, Prod.mk.injEq] at h
              obtain ⟨rfl, rfl⟩ := h
              exact ⟨hc, s1.1, s1.2, .inl s2⟩
            · rw [if_neg hc] at h; exact c s t h
theorem inside_inj {a b c d : ByteArray} (h : a.size = c.size) (e : insideS a b = insideS c d) : a = c ∧ b = d := by
  have e1 : insideL a b = insideL c d := by
    have := congrArg (fun s : ByteArray => s.data.toList) e
    simpa [insideS] using this
  simp only [insideL, List.cons.injEq, true_and] at e1
  obtain ⟨h1, h2⟩ := List.append_inj e1 (by rw [data_length, data_length, h])
  have mk : ∀ {x y : ByteArray}, x.data.toList = y.data.toList → x = y := fun {x y} h => by
    cases x; cases y; congr 1; exact Array.toList_inj.1 h
  exact ⟨mk h1, mk h2⟩
end Ks
