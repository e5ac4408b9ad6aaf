/- Texts that the claim rests on, part 1: Frame, Base, Frame2, OctetPlain, ShaPlain, ShaFold, MerklePlain, FrontPlain, Seq, SeqObj, StrE, FrontObj, After. -/
import Derived.ProofKit
import Derived.WalkKit
import Derived.JoinedCond
import Derived.WalkSpells
import Derived.WalkLawsBesides
import Derived.Laws.IdiomStrings
import Derived.Deep.OwnRows
import Derived.Lib.Hide
import Derived.Lib.AppendStr
import Derived.Lib.UnsafeStr
import Derived.Laws.Bits64
import Derived.Laws.Bits64b
import Derived.ArgAppend
import Derived.Laws.OwnMore
import Derived.Deep.RegionLaw
import Derived.Lib.QuietBelow
import Derived.BigQuiet
/- From 'the call returns true, and of what was there nothing has turned' to what a law's row asks behind the call: for whatever types of arguments. No program is in sight. -/
namespace Ks
open Go Go.RowKit Go.ChangeShapes Go.WideShapes Go.ChangeAt

theorem trodAll_below {H : Type} {enc : TypeId × Value → H} {P : Program} (hl : laidOutB P = true) {W W' : World} (hb : Below W.heap.size W W') :
    ∀ (ts : List TypeId) (vs : List Value) (ds : List (DataW H)) (ps : List MemPlace), (∀ t ∈ ts, P.readableRec t = true ∧ t < P.types.size) → (∀ x ∈ ps, x.block < W.heap.size) →
      DataW.TrodAll enc P W 0 (fun _ => true) true ts vs ds ps → DataW.TrodAll enc P W' 0 (fun b => decide (b < W.heap.size)) true ts vs ds ps
  | [], [], [], ps, _, _, h => h
  | t :: ts, v :: vs, d :: ds, ps, hr, hlt, h => by
    obtain ⟨p, q, h1, h2, rfl⟩ := h
    have ht := hr t (by simp)
    exact ⟨p, q, Below.trod hl ht.1 ht.2 h1 hb (fun x hx => hlt x (by simp [hx])), trodAll_below hl hb ts vs ds q (fun t' h' => hr t' (by simp [h'])) (fun x hx => hlt x (by simp [hx])) h2, rfl⟩
  | [], _ :: _, _, _, _, _, h => h.elim
  | [], [], _ :: _, _, _, _, h => h.elim
  | _ :: _, [], _, _, _, _, h => h.elim
  | _ :: _, _ :: _, [], _, _, _, h => h.elim

theorem law_post {H : Type} {enc : TypeId × Value → H} {P : Program} {f : Func} {s : ChangeSpec} {W W' : World} {args : Array Value} {ds : List (DataW H)} {before : List MemPlace} {tb : TypeId}
    (hW : DataW.Whole enc P f.params.toList s.vars false W args.toList ds [] before) (hv : s.vars = []) (hl : laidOutB P = true)
    (hrec : ∀ t ∈ f.params.toList, P.readableRec t = true ∧ t < P.types.size) (hres : f.resultTypes = #[tb]) (htb : P.underlying tb = some .bool)
    (hs : s.fn H (ds ++ []) = { results := [.lit (.bool true)], args := ds }) (hb : Below W.heap.size W W') :
    s.post enc P f false true false false W args (.bool true) W' := by
  have hlt := fun x hx => hW.lt x hx
  have hW' := hW
  obtain ⟨p, q, hA, hV, hpq, hfz, hnd⟩ := hW
  rw [hv] at hV
  have hq : q = [] := hV
  subst hq
  rw [List.append_nil] at hpq
  subst hpq
  refine ⟨ds, [], before, [], before, [], hW', ?_, ?_, ?_, hb.frame _, fun h => by cases h⟩
  · rw [hs, hres]
    exact trodAll_mk1 (shut_bool htb _)
  · rw [hs]
    exact trodAll_below hl hb _ _ _ _ hrec (fun x hx => by simpa using hlt x hx) hA
  · rw [hs, hv]
    rfl

theorem i64_range {n : Int} (h : (Lit.int .i64 n).wf = true) : -9223372036854775808 ≤ n ∧ n ≤ 9223372036854775807 := by
  simpa [Lit.wf, IntKind.min, IntKind.max, IntKind.signed, IntKind.bits] using h
theorem u8_range {n : Int} (h : (Lit.int .u8 n).wf = true) : 0 ≤ n ∧ n ≤ 255 := by
  simpa [Lit.wf, IntKind.min, IntKind.max, IntKind.signed, IntKind.bits] using h

end Ks
/- Small laws of the walk that every text of this seat uses: a row of bytes made a string, a one-byte string, a string cut and joined. No program is in sight. -/
namespace Ks
open Go Go.RowKit

/-- the post behind a variable, so that the walk does not reckon in it -/
theorem calls_by {P : Program} {f : FuncId} {args : Array Value} {w : World} {Q : Ending → World → Prop}
    (h : ∀ R : Ending → World → Prop, Hid (∀ e w', Q e w' → R e w') → Calls P f args w R) : Calls P f args w Q := h Q (Lib.hid fun _ _ h => h)

/-- a string value of these bytes -/
abbrev str (l : List UInt8) : Value := .string ⟨l.toArray⟩

theorem conv_row {P : Program} {src dst e : TypeId} {b cap : Nat} {w : World} {n : Nat} {f : Nat → Value} (l : List UInt8) (hs : P.underlying src = some (.slice e)) (he : P.underlying e = some (.int .u8)) (hd : P.underlying dst = some .string)
    (hrow : w.rowIs b e n f) (hn : n = l.length) (hf : ∀ j (hj : j < l.length), f j = .int .u8 (l[j].toNat : Int)) :
    (convert src dst (.slice (some ⟨b, 0, none⟩) n cap)).run P w = .ok (.string ⟨l.toArray⟩) w := by
  subst hn
  refine run_convert_bytes_back w src dst e _ cap l hs he hd (fun j hj => ?_)
  rw [← hf j hj, ← hrow.cell hj]
  unfold Addr.add
  split <;> simp_all

/-- a new block of one byte, made a string -/
theorem conv_one {P : Program} {src dst e : TypeId} (hs : P.underlying src = some (.slice e)) (he : P.underlying e = some (.int .u8)) (hd : P.underlying dst = some .string) (x : Int) (cap : Nat) (t : TypeId) (w : World) :
    (convert src dst (.slice (some ⟨w.heap.size, 0, none⟩) 1 cap)).run P (w.alloc (.cells #[.int .u8 x] t)) = .ok (.string ⟨#[UInt8.ofNat x.toNat]⟩) (w.alloc (.cells #[.int .u8 x] t)) := by
  rw [run_convert_bytes_string _ src dst e _ 1 cap hs he hd]
  have hl := run_loadCells_list (P := P) (w.alloc (.cells #[.int .u8 x] t)) ⟨w.heap.size, 0, none⟩ [Value.int .u8 x] (fun j v hj => by
    match j, hj with
    | 0, hj => simp at hj; subst hj; simp [Addr.add])
  rw [run_bytesToString _ _ 1 cap [x] (by simpa using hl)]
  rfl

theorem str_some (s : ByteArray) (h : 0 < s.size) : s.toList.isEmpty = false ∧ ¬ s.toList = [] := by
  have h1 : s.toList.length = s.size := by rw [ByteArray.toList_eq]; cases s; simp [ByteArray.size]
  cases h2 : s.toList with
  | nil => rw [h2] at h1; simp at h1; omega
  | cons a l => simp

theorem str_none (s : ByteArray) (h : s.size = 0) : s = ⟨#[]⟩ := by
  cases s with
  | mk d => congr 1; exact Array.eq_empty_of_size_eq_zero h

theorem data_length (s : ByteArray) : s.data.toList.length = s.size := by cases s; simp [ByteArray.size]

theorem ByteArray.mk_append_one (x : UInt8) (l : List UInt8) : (ByteArray.mk #[x] ++ ByteArray.mk l.toArray) = ByteArray.mk (x :: l).toArray := by
  have := ByteArray.mk_append_mk [x] l
  simpa using this

/-- A slice value reads, in a world, as these numbers. -/
def RdI (w : World) (v : Value) (l : List Int) : Prop :=
  ∃ a cap, v = .slice a l.length cap ∧ l.length ≤ cap ∧ ∀ (i : Nat) (x : Int), l[i]? = some x → (∃ b off, a = some ⟨b, off, none⟩ ∧ b < w.heap.size ∧ w.cell? ⟨b, off + i, none⟩ = some (.int .i64 x)) ∧ -9223372036854775808 ≤ x ∧ x ≤ 9223372036854775807

theorem RdI.below {w w' : World} {v : Value} {l : List Int} (h : RdI w v l) (hb : Below w.heap.size w w') : RdI w' v l := by
  obtain ⟨a, cap, rfl, hc, h⟩ := h
  refine ⟨a, cap, rfl, hc, fun i x hx => ?_⟩
  obtain ⟨⟨b, off, ha, hlt, hcell⟩, hr⟩ := h i x hx
  exact ⟨⟨b, off, ha, Nat.lt_of_lt_of_le hlt hb.size, (hb.cell (p := ⟨b, off + i, none⟩) hlt).trans hcell⟩, hr⟩

/-- the place of an element, for a walk -/
theorem RdI.cell {w : World} {a : Option Addr} {n cap : Nat} {l : List Int} (h : RdI w (.slice a n cap) l) (i : Nat) (hi : i < l.length) :
    ∃ b off, a = some ⟨b, off, none⟩ ∧ b < w.heap.size ∧ w.cell? ⟨b, off + i, none⟩ = some (.int .i64 l[i]) := by
  obtain ⟨a', cap', he, _, h⟩ := h
  cases he
  obtain ⟨⟨b, off, ha, hlt, hcell⟩, _⟩ := h i l[i] (List.getElem?_eq_getElem hi)
  exact ⟨b, off, ha, hlt, hcell⟩

theorem RdI.range {w : World} {v : Value} {l : List Int} (h : RdI w v l) (i : Nat) (hi : i < l.length) : -9223372036854775808 ≤ l[i] ∧ l[i] ≤ 9223372036854775807 := by
  obtain ⟨a', cap', he, _, h⟩ := h
  exact (h i l[i] (List.getElem?_eq_getElem hi)).2

theorem RdI.nil (w : World) : RdI w (.slice none 0 0) [] := ⟨none, 0, rfl, Nat.le_refl _, fun i x hx => by simp at hx⟩

/-- out of a row that the call owns -/
theorem RdI.owned {w : World} {B : Nat} {e : TypeId} {v : Value} {l : List Int} (h : w.ownsRow B e 1 v l.length (l.map (Value.int .i64))) (hr : ∀ x ∈ l, -9223372036854775808 ≤ x ∧ x ≤ 9223372036854775807) : RdI w v l := by
  rcases h.2 with ⟨rfl, hn⟩ | ⟨g, cap, cur, rfl, hg, hh, hcap, hm, hsz, htk⟩
  · have : l = [] := List.length_eq_zero_iff.1 hn
    subst this
    exact RdI.nil w
  · refine ⟨_, cap, rfl, hcap, fun i x hx => ⟨⟨g, 0, rfl, lt_of_block hh, ?_⟩, hr x (List.mem_of_getElem? hx)⟩⟩
    have hi : i < l.length := (List.getElem?_eq_some_iff.1 hx).1
    rw [Nat.zero_add, cell_of_row w g i cur e (0, 0) hh]
    have h1 : (cur.toList.take (l.length * 1))[i]? = some (.int .i64 x) := by rw [htk]; simp [hx]
    rw [List.getElem?_take, if_pos (by omega)] at h1
    simpa using h1

/-- out of a new block of numbers -/
theorem RdI.fresh {w : World} (l : List Int) (t : TypeId) (fr : Nat × Nat) (hr : ∀ x ∈ l, -9223372036854775808 ≤ x ∧ x ≤ 9223372036854775807) :
    RdI (w.alloc (.cells (l.map (Value.int .i64)).toArray t fr)) (.slice (some ⟨w.heap.size, 0, none⟩) l.length l.length) l := by
  refine ⟨_, _, rfl, Nat.le_refl _, fun i x hx => ⟨⟨w.heap.size, 0, rfl, by simp, ?_⟩, hr x (List.mem_of_getElem? hx)⟩⟩
  rw [Nat.zero_add, World.cell?_alloc_mark]
  simp [hx]

end Ks
/- Slices of numbers among a law's arguments: what they read as. No program is in sight. -/
namespace Ks
open Go Go.RowKit Go.ChangeShapes Go.WideShapes Go.ChangeAt
set_option linter.unusedVariables false

theorem add_place (b o i : Nat) : (⟨b, o, none⟩ : Addr).add i = ⟨b, o + i, none⟩ := by
  unfold Addr.add; split <;> simp_all

theorem spot_none {w : World} {a : Addr} {v : Value} (h : w.cell? a = some v) : a.spot = none := by
  unfold World.cell? at h
  split at h
  · cases hs : a.spot with
    | none => rfl
    | some x => simp [hs] at h
  · cases h

theorem rdI_open {H : Type} {enc : TypeId × Value → H} {P : Program} {T E : TypeId} {W : World} {base : Nat} {v : Value} {d : DataW H} {ps : List MemPlace}
    (hT : P.underlying T = some (.slice E)) (hE : P.underlying E = some (.int .i64)) (hc : P.cellsOf E = 1)
    (hok : Value.okWide P W .any base T v) (h : DataW.Trod enc P W 0 (fun _ => true) true T v d ps) : ∃ l : List Int, RdI W v l ∧ l.length ≤ maxLen := by
  obtain ⟨a0, len, cap, rfl⟩ := okWide_slice hT hok
  obtain ⟨fuel, hf⟩ := h
  rcases open_ints hT hE hc hf with ⟨hcs, hx⟩ | ⟨a, len', cap', zs, hcs, _, hl, hm, hz, hx, hcell, hwz⟩
  · simp only [Value.cells, List.cons.injEq, Value.slice.injEq, and_true] at hcs
    obtain ⟨rfl, rfl, rfl⟩ := hcs
    exact ⟨[], RdI.nil W, by simp⟩
  · simp only [Value.cells, List.cons.injEq, Value.slice.injEq, and_true] at hcs
    obtain ⟨rfl, rfl, rfl⟩ := hcs
    simp only [if_true] at hz
    have hlen : (zs.take len).length = len := by rw [List.length_take]; omega
    refine ⟨zs.take len, ⟨some a, cap, by rw [hlen], by omega, fun i x hx => ?_⟩, by rw [hlen]; omega⟩
    have hi : i < len := by have := (List.getElem?_eq_some_iff.1 hx).1; omega
    have hx' : zs[i]? = some x := by rw [List.getElem?_take, if_pos hi] at hx; exact hx
    have hc0 := hcell 0 (by omega)
    have hci := hcell i (by omega)
    have h0 : a.add 0 = a := by unfold Addr.add; simp
    rw [h0] at hc0
    obtain ⟨b, o, s⟩ := a
    have hs := spot_none hc0
    simp only at hs
    subst hs
    rw [add_place] at hci
    have hg : zs.getD i 0 = x := by simp [hx']
    rw [hg] at hci
    exact ⟨⟨b, o, rfl, World.block_lt_of_cell? _ _ hci, hci⟩, i64_range (hwz x (List.mem_of_getElem? hx'))⟩

end Ks
/- Plain facts about bytes and numbers; no program is in sight. -/
namespace Ks
open Go

/-- a number's bytes, so many, the highest first -/
def putL : Nat → Nat → List UInt8
  | 0, _ => []
  | k + 1, n => putL k (n / 256) ++ [UInt8.ofNat n]

@[simp] theorem putL_length (k n : Nat) : (putL k n).length = k := by
  induction k generalizing n with
  | zero => rfl
  | succ k ih => simp [putL, ih]

theorem putL_get (k n i : Nat) (h : i < k) : (putL k n)[i]? = some (UInt8.ofNat (n / 256 ^ (k - 1 - i))) := by
  induction k generalizing n i with
  | zero => omega
  | succ k ih =>
    simp only [putL]
    by_cases hi : i < k
    · rw [List.getElem?_append_left (by simpa using hi), ih _ _ hi, Nat.div_div_eq_div_mul, show k + 1 - 1 - i = (k - 1 - i) + 1 by omega, Nat.pow_succ']
    · have : i = k := by omega
      subst this
      rw [List.getElem?_append_right (by simp)]
      simp

theorem ofNat_mod (n : Nat) : UInt8.ofNat (n % 256) = UInt8.ofNat n := by
  apply UInt8.toNat.inj; simp

/-- one byte more ahead -/
theorem putL_succ' (k n : Nat) : putL (k + 1) n = UInt8.ofNat (n / 256 ^ k) :: putL k n := by
  apply List.ext_getElem?
  intro i
  match i with
  | 0 => rw [putL_get _ _ _ (by omega)]; simp
  | i + 1 =>
    simp only [List.getElem?_cons_succ]
    by_cases h : i < k
    · rw [putL_get _ _ _ (by omega), putL_get _ _ _ h, show k + 1 - 1 - (i + 1) = k - 1 - i by omega]
    · rw [List.getElem?_eq_none (by simp; omega), List.getElem?_eq_none (by simp; omega)]

/-- the cells that hold a number's bytes when k of them are laid, from the last one on -/
def putCell (n width k : Nat) (j : Nat) : Value :=
  if width - 1 - j < k then Value.int .u8 (((n / 2 ^ (8 * (width - 1 - j)) : Nat) : Int) % 256) else Value.int .u8 0

theorem putCell_done (n width j : Nat) (h : j < (putL width n).length) : putCell n width width j = .int .u8 (((putL width n)[j]).toNat : Int) := by
  have h' : j < width := by simpa using h
  have := putL_get width n j h'
  rw [List.getElem?_eq_getElem h] at this
  injection this with this
  rw [this, putCell, if_pos (by omega)]
  rw [show (256 : Nat) ^ (width - 1 - j) = 2 ^ (8 * (width - 1 - j)) by rw [Nat.pow_mul]]
  simp

theorem putCell_succ (n width k j : Nat) (hk : k < width) (hj : j < width) :
    (if j = width - 1 - k then Value.int .u8 ((n : Int) / 2 ^ (8 * k) % 256) else putCell n width k j) = putCell n width (k + 1) j := by
  unfold putCell
  by_cases h : j = width - 1 - k
  · subst h
    rw [if_pos rfl, if_pos (by omega), show width - 1 - (width - 1 - k) = k by omega]
    simp
  · rw [if_neg h]
    by_cases h2 : width - 1 - j < k
    · rw [if_pos h2, if_pos (by omega)]
    · rw [if_neg h2, if_neg (by omega)]

/-- may a number stand in so many bytes? -/
def putOk (n width : Int) : Bool := decide (1 ≤ width ∧ width ≤ 8 ∧ 0 ≤ n ∧ (width < 8 → n.toNat / 2 ^ (8 * width.toNat) = 0))
def putS (n width : Int) : ByteArray := if putOk n width then ⟨(putL width.toNat n.toNat).toArray⟩ else ⟨#[]⟩
def putE (n width : Int) : Int := if putOk n width then 0 else 2

/-- the number of bytes -/
def getN (l : List UInt8) : Nat := l.foldl (fun n b => n * 256 + b.toNat) 0

theorem getN_snoc (l : List UInt8) (b : UInt8) : getN (l ++ [b]) = getN l * 256 + b.toNat := by simp [getN]

theorem getN_foldl (l : List UInt8) (a : Nat) : l.foldl (fun n b => n * 256 + b.toNat) a = a * 256 ^ l.length + getN l := by
  induction l generalizing a with
  | nil => simp [getN]
  | cons b l ih =>
    simp only [List.foldl_cons, getN, List.length_cons]
    rw [ih, ih (0 * 256 + b.toNat), Nat.pow_succ', Nat.add_mul, Nat.add_mul]
    simp [Nat.mul_assoc, Nat.add_assoc]

theorem getN_cons (b : UInt8) (l : List UInt8) : getN (b :: l) = b.toNat * 256 ^ l.length + getN l := by
  have := getN_foldl l (0 * 256 + b.toNat)
  simpa [getN] using this

theorem getN_append (a b : List UInt8) : getN (a ++ b) = getN a * 256 ^ b.length + getN b := by
  rw [getN, List.foldl_append]; exact getN_foldl b _

theorem getN_lt (l : List UInt8) : getN l < 256 ^ l.length := by
  induction l with
  | nil => simp [getN]
  | cons b l ih =>
    rw [getN_cons, List.length_cons, Nat.pow_succ]
    have := b.toNat_lt
    have h2 : b.toNat * 256 ^ l.length ≤ 255 * 256 ^ l.length := Nat.mul_le_mul_right _ (by omega)
    omega

theorem getN_take_le (l : List UInt8) (k : Nat) : getN (l.take k) ≤ getN l := by
  have := getN_append (l.take k) (l.drop k)
  rw [List.take_append_drop] at this
  rw [this]
  have : 1 ≤ 256 ^ (l.drop k).length := Nat.one_le_pow _ _ (by omega)
  have := Nat.mul_le_mul_left (getN (l.take k)) this
  omega

theorem take_snoc (s : ByteArray) (k : Nat) (h : k < s.size) : s.data.toList.take (k + 1) = s.data.toList.take k ++ [s[k]] := by
  rw [List.take_succ_eq_append_getElem (by simpa using h)]; rfl

/-- is there a number of these bytes? -/
def getOk (l : List UInt8) : Bool := decide (1 ≤ l.length ∧ l.length ≤ 8 ∧ getN l ≤ 9223372036854775807)
def getV (s : ByteArray) : Int := if getOk s.data.toList then getN s.data.toList else 0
def getE (s : ByteArray) : Int := if getOk s.data.toList then 0 else 3

theorem getN_head (s : ByteArray) (h : s.size = 8) : getN s.data.toList ≤ 9223372036854775807 ↔ ¬ 127 < (s[0]'(by omega)).toNat := by
  obtain ⟨⟨l⟩⟩ := s
  have hl : l.length = 8 := h
  show getN l ≤ _ ↔ ¬ 127 < (l[0]'(by omega)).toNat
  match l, hl with
  | b :: l, hl =>
    simp only [List.getElem_cons_zero]
    rw [getN_cons]
    have := getN_lt l
    have hl7 : l.length = 7 := by simpa using hl
    rw [hl7] at this ⊢
    have h7 : (256 : Nat) ^ 7 = 72057594037927936 := by decide
    rw [h7] at this ⊢
    omega

theorem or8 (m b : Nat) (hm : m * 256 + b ≤ 9223372036854775807) (hb : b < 256) : bits .or .i64 ((m : Int) * 256) (b : Int) = (m : Int) * 256 + b :=
  bits_join .i64 63 (by decide) (fun n h0 h1 => by rw [IntKind.wrap_i64]; omega) 8 _ _ (by omega) (by omega) (by omega) (by omega) (by omega) (by omega)

/-- numbers' bytes, one behind the other: of the first k -/
def packTo (ws l : List Int) : Nat → List UInt8
  | 0 => []
  | k + 1 => packTo ws l k ++ putL (ws.getD k 0).toNat (l.getD k 0).toNat
def packOk (ws l : List Int) : Bool := decide (ws.length = l.length ∧ ∀ i, i < l.length → putOk (l.getD i 0) (ws.getD i 0) = true)
def packS (ws l : List Int) : ByteArray := if packOk ws l then ⟨(packTo ws l l.length).toArray⟩ else ⟨#[]⟩
def packE (ws l : List Int) : Int := if packOk ws l then 0 else 2

theorem putOk_width {n w : Int} (h : putOk n w = true) : 1 ≤ w ∧ w ≤ 8 ∧ 0 ≤ n := by
  simp only [putOk, decide_eq_true_eq] at h; omega

theorem packTo_length (ws l : List Int) (k : Nat) (h : ∀ i, i < k → putOk (l.getD i 0) (ws.getD i 0) = true) : (packTo ws l k).length ≤ 8 * k := by
  induction k with
  | zero => simp [packTo]
  | succ k ih =>
    have := putOk_width (h k (by omega))
    have := ih (fun i hi => h i (by omega))
    simp only [packTo, List.length_append, putL_length]
    omega

theorem strCells_mk (l : List UInt8) : Lib.strCells ⟨l.toArray⟩ = Lib.byteCells l := rfl
theorem byteCells_append (a b : List UInt8) : Lib.byteCells (a ++ b) = Lib.byteCells a ++ Lib.byteCells b := by simp [Lib.byteCells]
theorem byteCells_length (a : List UInt8) : (Lib.byteCells a).length = a.length := by simp [Lib.byteCells]

theorem get_cases (s : ByteArray) : (getOk s.data.toList = true ∧ 0 < s.size ∧ (s.size < 8 ∨ ∃ h : s.size = 8, ¬ 127 < (s[0]'(by omega)).toNat) ∧ getN s.data.toList ≤ 9223372036854775807) ∨
    (getOk s.data.toList = false ∧ (s.size = 0 ∨ 8 < s.size ∨ ∃ h : s.size = 8, 127 < (s[0]'(by omega)).toNat)) := by
  have hl := data_length s
  by_cases h : getOk s.data.toList = true
  · refine .inl ⟨h, ?_⟩
    simp only [getOk, decide_eq_true_eq, hl] at h
    refine ⟨by omega, ?_, h.2.2⟩
    by_cases h8 : s.size = 8
    · exact .inr ⟨h8, (getN_head s h8).1 h.2.2⟩
    · exact .inl (by omega)
  · refine .inr ⟨by simpa using h, ?_⟩
    simp only [getOk, decide_eq_true_eq, hl] at h
    by_cases h0 : s.size = 0
    · exact .inl h0
    by_cases h8 : 8 < s.size
    · exact .inr (.inl h8)
    have hn : ¬ getN s.data.toList ≤ 9223372036854775807 := fun hh => h ⟨by omega, by omega, hh⟩
    by_cases h9 : s.size = 8
    · refine .inr (.inr ⟨h9, ?_⟩)
      have := mt (getN_head s h9).2 hn
      omega
    · exfalso
      have h1 := getN_lt s.data.toList
      have h2 : 256 ^ s.data.toList.length ≤ 256 ^ 7 := Nat.pow_le_pow_right (by omega) (by omega)
      have h7 : (256 : Nat) ^ 7 = 72057594037927936 := by decide
      omega

end Ks
/- The digest, in plain numbers: no program is in sight. -/
namespace Ks
open Go Go.RowKit
set_option linter.unusedVariables false

/-- a number of 32 bits turned -/
def rotr (x n : Nat) : Nat := ((x >>> n) ||| (x <<< (32 - n))) % 4294967296
def chN (e f g : Nat) : Nat := (e &&& f) ||| ((4294967295 - e) &&& g)
def majN (a b c : Nat) : Nat := ((a &&& b) ||| (a &&& c)) ||| (b &&& c)
def sigS (x a b c : Nat) : Nat := (rotr x a ^^^ rotr x b) ^^^ (x >>> c)
def sigR (x a b c : Nat) : Nat := (rotr x a ^^^ rotr x b) ^^^ rotr x c

theorem rotr_lt (x n : Nat) : rotr x n < 4294967296 := Nat.mod_lt _ (by decide)
theorem shr_lt {x : Nat} (h : x < 4294967296) (n : Nat) : x >>> n < 4294967296 := Nat.lt_of_le_of_lt (Nat.shiftRight_le x n) h
theorem lt32 {x : Nat} : x < 4294967296 ↔ x < 2 ^ 32 := by rw [show (2:Nat) ^ 32 = 4294967296 from by decide]
theorem xor32 {a b : Nat} (ha : a < 4294967296) (hb : b < 4294967296) : a ^^^ b < 4294967296 := lt32.2 (Nat.xor_lt_two_pow (lt32.1 ha) (lt32.1 hb))
theorem or32 {a b : Nat} (ha : a < 4294967296) (hb : b < 4294967296) : a ||| b < 4294967296 := lt32.2 (Nat.or_lt_two_pow (lt32.1 ha) (lt32.1 hb))
theorem and32 {a b : Nat} (hb : b < 4294967296) : a &&& b < 4294967296 := lt32.2 (Nat.and_lt_two_pow _ (lt32.1 hb))
theorem sigS_lt {x a b c : Nat} (h : x < 4294967296) : sigS x a b c < 4294967296 := xor32 (xor32 (rotr_lt _ _) (rotr_lt _ _)) (shr_lt h _)
theorem sigR_lt {x a b c : Nat} : sigR x a b c < 4294967296 := xor32 (xor32 (rotr_lt _ _) (rotr_lt _ _)) (rotr_lt _ _)
theorem chN_lt {e f g : Nat} (hf : f < 4294967296) (hg : g < 4294967296) : chN e f g < 4294967296 := or32 (and32 hf) (and32 hg)
theorem majN_lt {a b c : Nat} (hb : b < 4294967296) (hc : c < 4294967296) : majN a b c < 4294967296 := or32 (or32 (and32 hb) (and32 hc)) (and32 hc)

theorem rot_parts (x n : Nat) (hx : x < 4294967296) : ((x <<< (32 - n)) % 4294967296) ||| (x >>> n) = rotr x n := by
  have e : (4294967296 : Nat) = 2 ^ 32 := by decide
  have hs := lt32.1 (shr_lt hx n)
  unfold rotr
  rw [e]
  apply Nat.eq_of_testBit_eq
  intro i
  rw [Nat.testBit_or, Nat.testBit_mod_two_pow, Nat.testBit_mod_two_pow, Nat.testBit_or]
  by_cases hi : i < 32
  · simp [hi, Bool.or_comm]
  · have : (x >>> n).testBit i = false := Nat.testBit_lt_two_pow (Nat.lt_of_lt_of_le hs (Nat.pow_le_pow_right (by decide) (by omega)))
    simp [hi, this]

theorem ch_parts (e f g : Nat) (he : e < 4294967296) (hg : g < 4294967296) : g ^^^ (e &&& (f ^^^ g)) = chN e f g := by
  unfold chN
  apply Nat.eq_of_testBit_eq
  intro i
  have h1 : (4294967295 - e) = 2 ^ 32 - (e + 1) := by rw [show (2:Nat) ^ 32 = 4294967296 from by decide]; omega
  rw [Nat.testBit_or, Nat.testBit_and, Nat.testBit_and, Nat.testBit_xor, Nat.testBit_and, Nat.testBit_xor, h1, Nat.testBit_two_pow_sub_succ (lt32.1 he)]
  by_cases hi : i < 32
  · simp [hi]; cases e.testBit i <;> cases f.testBit i <;> cases g.testBit i <;> rfl
  · have hgi : g.testBit i = false := Nat.testBit_lt_two_pow (Nat.lt_of_lt_of_le (lt32.1 hg) (Nat.pow_le_pow_right (by decide) (by omega)))
    have hei : e.testBit i = false := Nat.testBit_lt_two_pow (Nat.lt_of_lt_of_le (lt32.1 he) (Nat.pow_le_pow_right (by decide) (by omega)))
    simp [hi, hgi, hei]

theorem maj_parts (a b c : Nat) : (a &&& b) ||| (c &&& (a ||| b)) = majN a b c := by
  unfold majN
  apply Nat.eq_of_testBit_eq
  intro i
  simp only [Nat.testBit_or, Nat.testBit_and]
  cases a.testBit i <;> cases b.testBit i <;> cases c.testBit i <;> rfl

/-! ### the machine's numbers -/
theorem wraps_u32 (n : Int) (h₀ : 0 ≤ n) (h₁ : n < 2 ^ 32) : IntKind.u32.wrap n = n := by
  rw [show (2 : Int) ^ 32 = 4294967296 from by decide] at h₁
  simp [IntKind.wrap, IntKind.bits, IntKind.signed]; omega
theorem wraps_i64 (n : Int) (h₀ : 0 ≤ n) (h₁ : n < 2 ^ 63) : IntKind.i64.wrap n = n := by
  rw [show (2 : Int) ^ 63 = 9223372036854775808 from by decide] at h₁
  rw [IntKind.wrap_i64]; omega
theorem bits_xor_nat (k : IntKind) (j : Nat) (hj : j ≤ k.bits) (hk : ∀ n : Int, 0 ≤ n → n < 2 ^ j → k.wrap n = n) (a b : Nat) (ha : a < 2 ^ j) (hb : b < 2 ^ j) :
    bits .xor k a b = ((a ^^^ b : Nat) : Int) := by
  have hp : 2 ^ j ≤ 2 ^ k.bits := Nat.pow_le_pow_right (by decide) hj
  have ha' : a % 2 ^ k.bits = a := Nat.mod_eq_of_lt (Nat.lt_of_lt_of_le ha hp)
  have hb' : b % 2 ^ k.bits = b := Nat.mod_eq_of_lt (Nat.lt_of_lt_of_le hb hp)
  have cast : ∀ n : Nat, n < 2 ^ j → ((n : Nat) : Int) < 2 ^ j := fun n h => by exact_mod_cast h
  simp only [bits, BitVec.ofInt_natCast, BitVec.toNat_xor, BitVec.toNat_ofNat, ha', hb']
  exact hk _ (Int.natCast_nonneg _) (cast _ (Nat.xor_lt_two_pow ha hb))
theorem xor_u32 (a b : Nat) (ha : a < 4294967296) (hb : b < 4294967296) : bits .xor .u32 a b = ((a ^^^ b : Nat) : Int) := bits_xor_nat .u32 32 (by decide) wraps_u32 a b (lt32.1 ha) (lt32.1 hb)
theorem or_u32 (a b : Nat) (ha : a < 4294967296) (hb : b < 4294967296) : bits .or .u32 a b = ((a ||| b : Nat) : Int) := (bits_nat .u32 32 (by decide) wraps_u32 a b (lt32.1 ha) (lt32.1 hb)).2
theorem and_u32 (a b : Nat) (ha : a < 4294967296) (hb : b < 4294967296) : bits .and .u32 a b = ((a &&& b : Nat) : Int) := (bits_nat .u32 32 (by decide) wraps_u32 a b (lt32.1 ha) (lt32.1 hb)).1
theorem xor_i64 (a b : Nat) (ha : a < 2 ^ 63) (hb : b < 2 ^ 63) : bits .xor .i64 a b = ((a ^^^ b : Nat) : Int) := bits_xor_nat .i64 63 (by decide) wraps_i64 a b ha hb
theorem or_i64 (a b : Nat) (ha : a < 2 ^ 63) (hb : b < 2 ^ 63) : bits .or .i64 a b = ((a ||| b : Nat) : Int) := (bits_nat .i64 63 (by decide) wraps_i64 a b ha hb).2
theorem and_i64 (a b : Nat) (ha : a < 2 ^ 63) (hb : b < 2 ^ 63) : bits .and .i64 a b = ((a &&& b : Nat) : Int) := (bits_nat .i64 63 (by decide) wraps_i64 a b ha hb).1

/-! ### the sum -/
structure St where
  a : Nat
  b : Nat
  c : Nat
  d : Nat
  e : Nat
  f : Nat
  g : Nat
  h : Nat
deriving DecidableEq
def St.ok (s : St) : Prop := s.a < 4294967296 ∧ s.b < 4294967296 ∧ s.c < 4294967296 ∧ s.d < 4294967296 ∧ s.e < 4294967296 ∧ s.f < 4294967296 ∧ s.g < 4294967296 ∧ s.h < 4294967296
def St.list (s : St) : List Nat := [s.a, s.b, s.c, s.d, s.e, s.f, s.g, s.h]

/-- the next of a block's numbers -/
def wNext (W : List Nat) : Nat :=
  (W.getD (W.length - 16) 0 + sigS (W.getD (W.length - 15) 0) 7 18 3 + W.getD (W.length - 7) 0 + sigS (W.getD (W.length - 2) 0) 17 19 10) % 4294967296
/-- the number of four bytes of a block -/
def num4 (B : List UInt8) (i : Nat) : Nat := getN ((B.drop (4 * i)).take 4)
/-- a block's first numbers -/
def wordsN (B : List UInt8) : Nat → List Nat
  | 0 => []
  | n + 1 => wordsN B n ++ [if n < 16 then num4 B n else wNext (wordsN B n)]

def kays : List Nat := [
  0x428a2f98, 0x71374491, 0xb5c0fbcf, 0xe9b5dba5, 0x3956c25b, 0x59f111f1, 0x923f82a4, 0xab1c5ed5,
  0xd807aa98, 0x12835b01, 0x243185be, 0x550c7dc3, 0x72be5d74, 0x80deb1fe, 0x9bdc06a7, 0xc19bf174,
  0xe49b69c1, 0xefbe4786, 0x0fc19dc6, 0x240ca1cc, 0x2de92c6f, 0x4a7484aa, 0x5cb0a9dc, 0x76f988da,
  0x983e5152, 0xa831c66d, 0xb00327c8, 0xbf597fc7, 0xc6e00bf3, 0xd5a79147, 0x06ca6351, 0x14292967,
  0x27b70a85, 0x2e1b2138, 0x4d2c6dfc, 0x53380d13, 0x650a7354, 0x766a0abb, 0x81c2c92e, 0x92722c85,
  0xa2bfe8a1, 0xa81a664b, 0xc24b8b70, 0xc76c51a3, 0xd192e819, 0xd6990624, 0xf40e3585, 0x106aa070,
  0x19a4c116, 0x1e376c08, 0x2748774c, 0x34b0bcb5, 0x391c0cb3, 0x4ed8aa4a, 0x5b9cca4f, 0x682e6ff3,
  0x748f82ee, 0x78a5636f, 0x84c87814, 0x8cc70208, 0x90befffa, 0xa4506ceb, 0xbef9a3f7, 0xc67178f2]
def st0 : St := ⟨0x6a09e667, 0xbb67ae85, 0x3c6ef372, 0xa54ff53a, 0x510e527f, 0x9b05688c, 0x1f83d9ab, 0x5be0cd19⟩

def tN (s : St) (k w : Nat) : Nat := s.h + sigR s.e 6 11 25 + chN s.e s.f s.g + k + w
def uN (s : St) : Nat := sigR s.a 2 13 22 + majN s.a s.b s.c
def roundN (s : St) (k w : Nat) : St := ⟨(tN s k w + uN s) % 4294967296, s.a, s.b, s.c, (s.d + tN s k w) % 4294967296, s.e, s.f, s.g⟩
def roundsN (s : St) (W : List Nat) : Nat → St
  | 0 => s
  | n + 1 => roundN (roundsN s W n) (kays.getD n 0) (W.getD n 0)
def addN (x s : St) : St := ⟨(x.a + s.a) % 4294967296, (x.b + s.b) % 4294967296, (x.c + s.c) % 4294967296, (x.d + s.d) % 4294967296, (x.e + s.e) % 4294967296, (x.f + s.f) % 4294967296, (x.g + s.g) % 4294967296, (x.h + s.h) % 4294967296⟩
/-- the state that a block turns one to -/
def turnN (s : St) (B : List UInt8) : St := addN (roundsN s (wordsN B 64) 64) s

theorem getN4_lt (l : List UInt8) : getN (l.take 4) < 4294967296 := by
  have h := getN_lt (l.take 4)
  have h2 : (256 : Nat) ^ (l.take 4).length ≤ 256 ^ 4 := Nat.pow_le_pow_right (by decide) (by simp; omega)
  have h3 : (256 : Nat) ^ 4 = 4294967296 := by decide
  omega
theorem num4_lt (B : List UInt8) (i : Nat) : num4 B i < 4294967296 := getN4_lt _
theorem wordsN_length (B : List UInt8) (n : Nat) : (wordsN B n).length = n := by
  induction n with
  | zero => rfl
  | succ n ih => simp [wordsN, ih]
theorem wNext_lt (W : List Nat) : wNext W < 4294967296 := Nat.mod_lt _ (by decide)
theorem wordsN_lt (B : List UInt8) (n : Nat) : ∀ x ∈ wordsN B n, x < 4294967296 := by
  induction n with
  | zero => intro x hx; cases hx
  | succ n ih =>
    intro x hx
    rw [wordsN, List.mem_append, List.mem_singleton] at hx
    rcases hx with hx | rfl
    · exact ih x hx
    · split
      · exact num4_lt _ _
      · exact wNext_lt _
theorem getD_lt {l : List Nat} (h : ∀ x ∈ l, x < 4294967296) (i : Nat) : l.getD i 0 < 4294967296 := by
  rw [List.getD_eq_getElem?_getD]
  cases e : l[i]? with
  | none => simp
  | some x => exact h x (List.mem_of_getElem? e)
theorem kays_lt : ∀ x ∈ kays, x < 4294967296 := by decide
theorem st0_ok : st0.ok := by unfold St.ok; decide
theorem roundN_ok {s : St} (h : s.ok) (k w : Nat) : (roundN s k w).ok := by
  obtain ⟨h1, h2, h3, h4, h5, h6, h7, h8⟩ := h
  exact ⟨Nat.mod_lt _ (by decide), h1, h2, h3, Nat.mod_lt _ (by decide), h5, h6, h7⟩
theorem roundsN_ok {s : St} (h : s.ok) (W : List Nat) (n : Nat) : (roundsN s W n).ok := by
  induction n with
  | zero => exact h
  | succ n ih => exact roundN_ok ih _ _
theorem addN_ok (x s : St) : (addN x s).ok := by
  refine ⟨?_, ?_, ?_, ?_, ?_, ?_, ?_, ?_⟩ <;> exact Nat.mod_lt _ (by decide)
theorem turnN_ok (s : St) (B : List UInt8) : (turnN s B).ok := addN_ok _ _

/-- a state's bytes -/
def textL (s : St) : List UInt8 := putL 4 s.a ++ (putL 4 s.b ++ (putL 4 s.c ++ (putL 4 s.d ++ (putL 4 s.e ++ (putL 4 s.f ++ (putL 4 s.g ++ putL 4 s.h))))))
/-- the state that a text's blocks turn one to -/
def foldN (s : St) (l : List UInt8) : St :=
  if h : 64 ≤ l.length then foldN (turnN s (l.take 64)) (l.drop 64) else s
termination_by l.length
decreasing_by simp; omega
/-- what stands behind so many bytes -/
def padL (n : Nat) : List UInt8 := 128 :: (List.replicate (63 - (n + 8) % 64) 0 ++ putL 8 (8 * n))
/-- the sum -/
def shaL (l : List UInt8) : List UInt8 := textL (foldN st0 (l ++ padL l.length))

end Ks
/- A text's blocks, one by one: plain laws of the digest. No program is in sight. -/
namespace Ks
open Go Go.RowKit
set_option linter.unusedVariables false
theorem foldN_ge (s : St) (l : List UInt8) (h : 64 ≤ l.length) : foldN s l = foldN (turnN s (l.take 64)) (l.drop 64) := by
  rw [foldN]; simp [h]
theorem foldN_lt (s : St) (l : List UInt8) (h : l.length < 64) : foldN s l = s := by
  rw [foldN]; simp [show ¬ 64 ≤ l.length by omega]
/-- what is left behind whole blocks -/
def restL (l : List UInt8) : List UInt8 := l.drop (64 * (l.length / 64))
theorem restL_length (l : List UInt8) : (restL l).length = l.length % 64 := by simp only [restL, List.length_drop]; omega
theorem restL_lt (l : List UInt8) (h : l.length < 64) : restL l = l := by rw [restL, Nat.div_eq_of_lt h]; simp
theorem restL_ge (l : List UInt8) (h : 64 ≤ l.length) : restL l = restL (l.drop 64) := by
  rw [restL, restL, List.drop_drop, List.length_drop]; congr 1; omega
theorem foldN_append (B : List UInt8) : ∀ (n : Nat) (s : St) (A : List UInt8), A.length = n → foldN s (A ++ B) = foldN (foldN s A) (restL A ++ B) := by
  intro n
  induction n using Nat.strongRecOn with
  | _ n ih =>
    intro s A hA
    by_cases h : 64 ≤ A.length
    · rw [foldN_ge s A h, restL_ge A h, foldN_ge s (A ++ B) (by simp; omega), List.take_append_of_le_length h, List.drop_append_of_le_length h]
      exact ih (n - 64) (by omega) _ _ (by simp; omega)
    · rw [foldN_lt s A (by omega), restL_lt A (by omega)]
theorem restL_append (B : List UInt8) : ∀ (n : Nat) (A : List UInt8), A.length = n → restL (A ++ B) = restL (restL A ++ B) := by
  intro n
  induction n using Nat.strongRecOn with
  | _ n ih =>
    intro A hA
    by_cases h : 64 ≤ A.length
    · rw [restL_ge A h, restL_ge (A ++ B) (by simp; omega), List.drop_append_of_le_length h]
      exact ih (n - 64) (by omega) _ (by simp; omega)
    · rw [restL_lt A (by omega)]
theorem foldN_ok : ∀ (n : Nat) (s : St) (l : List UInt8), l.length = n → s.ok → (foldN s l).ok := by
  intro n
  induction n using Nat.strongRecOn with
  | _ n ih =>
    intro s l hl hs
    by_cases h : 64 ≤ l.length
    · rw [foldN_ge s l h]; exact ih (n - 64) (by omega) _ _ (by simp; omega) (turnN_ok _ _)
    · rw [foldN_lt s l (by omega)]; exact hs
theorem fold0_ok (l : List UInt8) : (foldN st0 l).ok := foldN_ok _ _ _ rfl st0_ok
theorem padL_length (n : Nat) : (padL n).length = 72 - (n + 8) % 64 := by simp [padL, putL_length]; omega
theorem padded (l : List UInt8) : (l ++ padL l.length).length % 64 = 0 := by rw [List.length_append, padL_length]; omega
theorem textL_length (s : St) : (textL s).length = 32 := by simp [textL, putL_length]
theorem shaL_length (l : List UInt8) : (shaL l).length = 32 := textL_length _
end Ks
/- Trees of hashes: by halves from above, and by levels from below: plain. -/
namespace Ks
open Go
set_option linter.unusedVariables false
def sha1 (l : List UInt8) : ByteArray := ⟨(shaL l).toArray⟩
theorem sha1_size (l : List UInt8) : (sha1 l).size = 32 := by show (shaL l).toArray.size = 32; simp [shaL_length]
def leafS (s : ByteArray) : ByteArray := sha1 (0 :: s.data.toList)
def insideL (a b : ByteArray) : List UInt8 := 1 :: (a.data.toList ++ b.data.toList)
def nodeS (a b : ByteArray) : ByteArray := sha1 (insideL a b)
def wholeL (l : List ByteArray) : Bool := l.all fun s => s.size == 32
/-- the greatest power of 2 below -/
def halfN (n : Nat) : Nat := 2 ^ (n - 1).log2
theorem half_spec (n : Nat) (h : 2 ≤ n) : ∃ j, halfN n = 2 ^ j ∧ 2 ^ j < n ∧ n ≤ 2 ^ (j + 1) := by
  refine ⟨(n - 1).log2, rfl, ?_, ?_⟩
  · have := Nat.log2_self_le (show n - 1 ≠ 0 by omega); omega
  · have := @Nat.lt_log2_self (n - 1); omega
theorem half_lt (n : Nat) (h : 2 ≤ n) : 0 < halfN n ∧ halfN n < n := by
  obtain ⟨j, e, h1, _⟩ := half_spec n h
  rw [e]
  exact ⟨Nat.two_pow_pos j, h1⟩
theorem half_of (n j : Nat) (h1 : 2 ^ j < n) (h2 : n ≤ 2 ^ (j + 1)) : halfN n = 2 ^ j := by
  have h3 : 1 ≤ 2 ^ j := Nat.two_pow_pos j
  obtain ⟨i, e, g1, g2⟩ := half_spec n (by omega)
  rw [e]
  have a : j < i + 1 := (Nat.pow_lt_pow_iff_right (a := 2) (by decide)).1 (by omega)
  have b : i < j + 1 := (Nat.pow_lt_pow_iff_right (a := 2) (by decide)).1 (by omega)
  rw [show i = j by omega]

/-- the root, by halves -/
def rootL (l : List ByteArray) : ByteArray :=
  if h : 2 ≤ l.length then nodeS (rootL (l.take (halfN l.length))) (rootL (l.drop (halfN l.length))) else if l.length = 1 then l.headD ⟨#[]⟩ else sha1 []
termination_by l.length
decreasing_by
  · have := half_lt l.length h; rw [List.length_take]; omega
  · have := half_lt l.length h; rw [List.length_drop]; omega
theorem root_two (l : List ByteArray) (h : 2 ≤ l.length) : rootL l = nodeS (rootL (l.take (halfN l.length))) (rootL (l.drop (halfN l.length))) := by rw [rootL, dif_pos h]
theorem root_one (a : ByteArray) : rootL [a] = a := by rw [rootL]; simp
theorem root_nil : rootL [] = sha1 [] := by rw [rootL]; simp
def pathL (l : List ByteArray) (i : Nat) : List ByteArray :=
  if h : 2 ≤ l.length then (if i < halfN l.length then pathL (l.take (halfN l.length)) i ++ [rootL (l.drop (halfN l.length))] else pathL (l.drop (halfN l.length)) (i - halfN l.length) ++ [rootL (l.take (halfN l.length))]) else []
termination_by l.length
decreasing_by
  · have := half_lt l.length h; rw [List.length_take]; omega
  · have := half_lt l.length h; rw [List.length_drop]; omega
theorem path_two (l : List ByteArray) (i : Nat) (h : 2 ≤ l.length) : pathL l i = if i < halfN l.length then pathL (l.take (halfN l.length)) i ++ [rootL (l.drop (halfN l.length))] else pathL (l.drop (halfN l.length)) (i - halfN l.length) ++ [rootL (l.take (halfN l.length))] := by rw [pathL, dif_pos h]
theorem path_low (l : List ByteArray) (i : Nat) (h : ¬ 2 ≤ l.length) : pathL l i = [] := by rw [pathL, dif_neg h]

/-- the level above one -/
def aboveL : List ByteArray → List ByteArray
  | a :: b :: l => nodeS a b :: aboveL l
  | [a] => [a]
  | [] => []
theorem above_length : ∀ l : List ByteArray, (aboveL l).length = (l.length + 1) / 2
  | [] => rfl
  | [a] => by rw [aboveL]; simp
  | a :: b :: l => by rw [aboveL, List.length_cons, above_length l]; simp only [List.length_cons]; omega
theorem above_append : ∀ (m : Nat) (a b : List ByteArray), a.length = 2 * m → aboveL (a ++ b) = aboveL a ++ aboveL b
  | 0, a, b, h => by obtain rfl : a = [] := List.length_eq_zero_iff.1 (by omega); rfl
  | m + 1, [], b, h => by simp at h
  | m + 1, [x], b, h => by simp at h; omega
  | m + 1, x :: y :: a, b, h => by
    simp only [List.length_cons] at h
    show nodeS x y :: aboveL (a ++ b) = nodeS x y :: aboveL a ++ aboveL b
    rw [above_append m a b (by omega)]; rfl
def upL : Nat → List ByteArray → List ByteArray
  | 0, l => l
  | m + 1, l => upL m (aboveL l)
theorem up_succ (m : Nat) (l : List ByteArray) : upL (m + 1) l = aboveL (upL m l) := by
  induction m generalizing l with
  | zero => rfl
  | succ m ih => rw [upL, ih, upL]
theorem up_one (m : Nat) (a : ByteArray) : upL m [a] = [a] := by
  induction m with
  | zero => rfl
  | succ m ih => exact ih
theorem up_add (m n : Nat) (l : List ByteArray) : upL (m + n) l = upL n (upL m l) := by
  induction m generalizing l with
  | zero => rw [Nat.zero_add]; rfl
  | succ m ih => rw [Nat.succ_add, upL, upL, ih]
theorem pow_half (j i : Nat) (h : i + 1 ≤ j) : 2 ^ (j - i) = 2 * 2 ^ (j - (i + 1)) := by
  rw [show j - i = (j - (i + 1)) + 1 by omega, Nat.pow_succ]; omega
theorem up_append (j : Nat) (a b : List ByteArray) (ha : a.length = 2 ^ j) : ∀ i, i ≤ j → upL i (a ++ b) = upL i a ++ upL i b ∧ (upL i a).length = 2 ^ (j - i) := by
  intro i
  induction i with
  | zero => exact fun _ => ⟨rfl, ha⟩
  | succ i ih =>
    intro h
    obtain ⟨e, hl⟩ := ih (by omega)
    rw [pow_half j i h] at hl
    rw [up_succ, up_succ, up_succ, e, above_append _ _ _ hl, above_length, hl]
    exact ⟨rfl, by omega⟩
/-- so many levels up there is the root alone -/
theorem up_root : ∀ (n : Nat) (l : List ByteArray) (m : Nat), l.length = n → 0 < n → n ≤ 2 ^ m → upL m l = [rootL l] := by
  intro n
  induction n using Nat.strongRecOn with
  | ind n ih =>
    intro l m hn h0 hm
    by_cases h1 : n = 1
    · subst h1
      match l, hn with
      | [a], _ => rw [up_one, root_one]
    · obtain ⟨j, e, g1, g2⟩ := half_spec n (by omega)
      have h2 : 2 ≤ l.length := by omega
      have h3 : 0 < 2 ^ j := Nat.two_pow_pos j
      have hjm : j < m := (Nat.pow_lt_pow_iff_right (a := 2) (by decide)).1 (by omega)
      have ht : (l.take (2 ^ j)).length = 2 ^ j := by rw [List.length_take]; omega
      have hd : (l.drop (2 ^ j)).length = n - 2 ^ j := by rw [List.length_drop]; omega
      have hj : upL (j + 1) l = [rootL l] := by
        have h4 := (up_append j (l.take (2 ^ j)) (l.drop (2 ^ j)) ht j (Nat.le_refl _)).1
        rw [List.take_append_drop] at h4
        rw [up_succ, h4, ih (2 ^ j) (by omega) _ j ht h3 (Nat.le_refl _), ih (n - 2 ^ j) (by omega) _ j hd (by omega) (by rw [Nat.pow_succ] at g2; omega), root_two l h2, hn, e]
        rfl
      rw [show m = (j + 1) + (m - (j + 1)) by omega, up_add, hj, up_one]
theorem root_above (l : List ByteArray) (h : 0 < l.length) : rootL (aboveL l) = rootL l := by
  obtain ⟨m, hm⟩ : ∃ m, l.length ≤ 2 ^ m := ⟨l.length, Nat.le_of_lt Nat.lt_two_pow_self⟩
  have h1 := up_root l.length l (m + 1) rfl h (by rw [Nat.pow_succ]; omega)
  have hl := above_length l
  have h2 := up_root (aboveL l).length (aboveL l) m rfl (by omega) (by omega)
  rw [upL, h2] at h1
  simpa using h1

/-- the place beside -/
def besideN (i : Nat) : Nat := if i % 2 = 0 then i + 1 else i - 1
def sibL (l : List ByteArray) (i : Nat) : List ByteArray := if besideN i < l.length then [l.getD (besideN i) ⟨#[]⟩] else []
/-- the path, by levels -/
def pathM : Nat → List ByteArray → Nat → List ByteArray
  | 0, _, _ => []
  | m + 1, l, i => sibL l i ++ pathM m (aboveL l) (i / 2)
theorem pathM_snoc (m : Nat) (l : List ByteArray) (i : Nat) : pathM (m + 1) l i = pathM m l i ++ sibL (upL m l) (i / 2 ^ m) := by
  induction m generalizing l i with
  | zero => simp [pathM, upL]
  | succ m ih =>
    rw [pathM, ih (aboveL l) (i / 2), pathM, upL, List.append_assoc, Nat.div_div_eq_div_mul, Nat.pow_succ, Nat.mul_comm]
theorem pathM_one (m : Nat) (a : ByteArray) : pathM m [a] 0 = [] := by
  induction m with
  | zero => rfl
  | succ m ih => rw [pathM]; show sibL [a] 0 ++ pathM m [a] 0 = []; rw [ih]; rfl
theorem sib_left (a b : List ByteArray) (i m : Nat) (h : a.length = 2 * m) (hi : i < a.length) : sibL (a ++ b) i = sibL a i := by
  have h1 : besideN i < a.length := by unfold besideN; split <;> omega
  unfold sibL
  rw [if_pos (by rw [List.length_append]; omega), if_pos h1]
  simp only [List.getD_eq_getElem?_getD]
  rw [List.getElem?_append_left h1]
theorem sib_right (a b : List ByteArray) (i m : Nat) (h : a.length = 2 * m) (hi : a.length ≤ i) : sibL (a ++ b) i = sibL b (i - a.length) := by
  have h1 : besideN i = a.length + besideN (i - a.length) := by
    unfold besideN
    rw [h] at hi ⊢
    by_cases e : i % 2 = 0
    · rw [if_pos e, if_pos (by omega)]; omega
    · rw [if_neg e, if_neg (by omega)]; omega
  unfold sibL
  by_cases h2 : besideN (i - a.length) < b.length
  · rw [if_pos (by rw [List.length_append]; omega), if_pos h2, h1]
    simp only [List.getD_eq_getElem?_getD]
    rw [List.getElem?_append_right (by omega), Nat.add_sub_cancel_left]
  · rw [if_neg (by rw [List.length_append]; omega), if_neg h2]
theorem pathM_left (j : Nat) : ∀ (t : Nat) (a b : List ByteArray) (i : Nat), t ≤ j → a.length = 2 ^ j → i < a.length → pathM t (a ++ b) i = pathM t a i := by
  induction j with
  | zero => intro t a b i ht ha hi; (obtain rfl : t = 0 := by omega); rfl
  | succ j ih =>
    intro t a b i ht ha hi
    match t, ht with
    | 0, _ => rfl
    | t + 1, ht =>
      have he : a.length = 2 * 2 ^ j := by rw [ha, Nat.pow_succ]; omega
      rw [pathM, pathM, sib_left a b i _ he hi, above_append _ _ _ he]
      rw [ih t (aboveL a) (aboveL b) (i / 2) (by omega) (by rw [above_length]; omega) (by rw [above_length]; omega)]
theorem pathM_right (j : Nat) : ∀ (t : Nat) (a b : List ByteArray) (i : Nat), t ≤ j → a.length = 2 ^ j → a.length ≤ i → pathM t (a ++ b) i = pathM t b (i - a.length) := by
  induction j with
  | zero => intro t a b i ht ha hi; (obtain rfl : t = 0 := by omega); rfl
  | succ j ih =>
    intro t a b i ht ha hi
    match t, ht with
    | 0, _ => rfl
    | t + 1, ht =>
      have he : a.length = 2 * 2 ^ j := by rw [ha, Nat.pow_succ]; omega
      rw [pathM, pathM, sib_right a b i _ he hi, above_append _ _ _ he]
      rw [ih t (aboveL a) (aboveL b) (i / 2) (by omega) (by rw [above_length]; omega) (by rw [above_length]; omega), above_length]
      congr 2
      omega
theorem pathM_eq : ∀ (n : Nat) (l : List ByteArray) (m i : Nat), l.length = n → i < n → n ≤ 2 ^ m → pathM m l i = pathL l i := by
  intro n
  induction n using Nat.strongRecOn with
  | ind n ih =>
    intro l m i hn hi hm
    by_cases h1 : n = 1
    · subst h1
      obtain rfl : i = 0 := by omega
      match l, hn with
      | [a], _ => rw [pathM_one, path_low _ _ (by simp)]
    · obtain ⟨j, e, g1, g2⟩ := half_spec n (by omega)
      have h2 : 2 ≤ l.length := by omega
      have h3 : 0 < 2 ^ j := Nat.two_pow_pos j
      have hp : 2 ^ (j + 1) = 2 * 2 ^ j := by rw [Nat.pow_succ]; omega
      have hjm : j < m := (Nat.pow_lt_pow_iff_right (a := 2) (by decide)).1 (by omega)
      have ht : (l.take (2 ^ j)).length = 2 ^ j := by rw [List.length_take]; omega
      have hd : (l.drop (2 ^ j)).length = n - 2 ^ j := by rw [List.length_drop]; omega
      have hup : upL j l = [rootL (l.take (2 ^ j)), rootL (l.drop (2 ^ j))] := by
        have h4 := (up_append j (l.take (2 ^ j)) (l.drop (2 ^ j)) ht j (Nat.le_refl _)).1
        rw [List.take_append_drop] at h4
        rw [h4, up_root (2 ^ j) _ j ht h3 (Nat.le_refl _), up_root (n - 2 ^ j) _ j hd (by omega) (by omega)]
        rfl
      have hj : pathM (j + 1) l i = pathL l i := by
        rw [pathM_snoc, hup, path_two l i h2, hn, e]
        by_cases hik : i < 2 ^ j
        · rw [if_pos hik, Nat.div_eq_of_lt hik]
          have h5 := pathM_left j j (l.take (2 ^ j)) (l.drop (2 ^ j)) i (Nat.le_refl _) ht (by omega)
          rw [List.take_append_drop] at h5
          rw [h5, ih (2 ^ j) (by omega) _ j i ht hik (Nat.le_refl _)]
          rfl
        · rw [if_neg hik, show i / 2 ^ j = 1 from Nat.div_eq_of_lt_le (by omega) (by omega)]
          have h5 := pathM_right j j (l.take (2 ^ j)) (l.drop (2 ^ j)) i (Nat.le_refl _) ht (by omega)
          rw [List.take_append_drop, ht] at h5
          rw [h5, ih (n - 2 ^ j) (by omega) _ j (i - 2 ^ j) hd (by omega) (by omega)]
          rfl
      have hz : i / 2 ^ (j + 1) = 0 := Nat.div_eq_of_lt (by omega)
      have hu : upL (j + 1) l = [rootL l] := up_root n l (j + 1) hn (by omega) g2
      have hmore : ∀ t, pathM (j + 1 + t) l i = pathM (j + 1) l i := by
        intro t
        induction t with
        | zero => rfl
        | succ t iht =>
          rw [← Nat.add_assoc, pathM_snoc, iht, up_add, hu, up_one]
          have : i / 2 ^ (j + 1 + t) = 0 := Nat.div_eq_of_lt (Nat.lt_of_lt_of_le (show i < 2 ^ (j + 1) by omega) (Nat.pow_le_pow_right (by decide) (by omega)))
          rw [this]
          show pathM (j + 1) l i ++ sibL [rootL l] 0 = _
          rw [show sibL [rootL l] 0 = [] from rfl, List.append_nil]
      rw [show m = j + 1 + (m - (j + 1)) by omega, hmore, hj]
end Ks
/- Peaks of leaves, from below: what one more leaf makes of them. Plain. No program is in sight. -/
namespace Ks
open Go
set_option linter.unusedVariables false
/-- the peaks: of an even row those of the row above; of an odd one those of all but the last, and it -/
def peaksB (l : List ByteArray) : List ByteArray :=
  if h : l = [] then [] else if l.length % 2 = 0 then peaksB (aboveL l) else peaksB (aboveL l.dropLast) ++ [l.getLastD ⟨#[]⟩]
termination_by l.length
decreasing_by
  all_goals
    have := List.length_pos_iff.2 h
    rw [above_length]
    try rw [List.length_dropLast]
    omega
theorem peaks_nil : peaksB [] = [] := by rw [peaksB]; simp
theorem peaks_even (l : List ByteArray) (h : l.length % 2 = 0) : peaksB l = peaksB (aboveL l) := by
  by_cases h0 : l = []
  · subst h0; rfl
  · rw [peaksB, dif_neg h0, if_pos h]
theorem peaks_odd (l : List ByteArray) (x : ByteArray) (h : l.length % 2 = 0) : peaksB (l ++ [x]) = peaksB l ++ [x] := by
  rw [peaksB, dif_neg (by simp), if_neg (by rw [List.length_append]; simp; omega), List.dropLast_concat, peaks_even l h, List.getLastD_concat]
theorem peaks_pair (l : List ByteArray) (y x : ByteArray) (h : l.length % 2 = 0) : peaksB (l ++ [y] ++ [x]) = peaksB (aboveL l ++ [nodeS y x]) := by
  rw [List.append_assoc, peaks_even _ (by rw [List.length_append]; simp; omega), above_append (l.length / 2) l _ (by omega)]
  rfl
/-- the ones of a number in digits to the base 2 -/
def onesN (n : Nat) : Nat := if h : n = 0 then 0 else n % 2 + onesN (n / 2)
theorem ones_half (n : Nat) : onesN n = n % 2 + onesN (n / 2) := by
  by_cases h : n = 0
  · subst h; simp [onesN]
  · rw [onesN, dif_neg h]
theorem peaks_ones : ∀ (n : Nat) (l : List ByteArray), l.length = n → (peaksB l).length = onesN n := by
  intro n
  induction n using Nat.strongRecOn with
  | ind n ih =>
    intro l hl
    by_cases h0 : n = 0
    · obtain rfl : l = [] := List.length_eq_zero_iff.1 (hl.trans h0)
      rw [h0, peaks_nil, onesN, dif_pos rfl]; rfl
    · rw [ones_half]
      by_cases h2 : n % 2 = 0
      · rw [peaks_even l (hl ▸ h2), ih (n / 2) (by omega) _ (by rw [above_length]; omega), h2, Nat.zero_add]
      · obtain ⟨m, x, rfl⟩ : ∃ m x, l = m ++ [x] := ⟨l.dropLast, l.getLast (fun e => by subst e; exact h0 hl.symm), (List.dropLast_concat_getLast _).symm⟩
        rw [List.length_append, List.length_singleton] at hl
        have he : m.length % 2 = 0 := by omega
        rw [peaks_odd m x he, List.length_append, List.length_singleton, peaks_even m he, ih (n / 2) (by omega) _ (by rw [above_length]; omega)]
        omega
theorem ones_le (n : Nat) : onesN n ≤ n := by
  induction n using Nat.strongRecOn with
  | ind n ih =>
    by_cases h0 : n = 0
    · subst h0; simp [onesN]
    · rw [ones_half]
      have := ih (n / 2) (by omega)
      omega
theorem peaks_le (l : List ByteArray) : (peaksB l).length ≤ l.length := by rw [peaks_ones _ l rfl]; exact ones_le _
theorem node_size (a b : ByteArray) : (nodeS a b).size = 32 := sha1_size _
theorem above_wide : ∀ l : List ByteArray, (∀ s ∈ l, s.size = 32) → ∀ s ∈ aboveL l, s.size = 32
  | [], _, s, hs => by simp [aboveL] at hs
  | [a], h, s, hs => by rw [aboveL] at hs; exact h s hs
  | a :: b :: l, h, s, hs => by
    rw [aboveL, List.mem_cons] at hs
    rcases hs with rfl | hs
    · exact node_size a b
    · exact above_wide l (fun s hs => h s (by simp [hs])) s hs
theorem odd_last (l : List ByteArray) (h : l.length % 2 = 1) : ∃ m x, l = m ++ [x] ∧ m.length % 2 = 0 := by
  have hne : l ≠ [] := fun e => by subst e; simp at h
  have e := (List.dropLast_concat_getLast hne).symm
  have h2 : l.dropLast.length = l.length - 1 := List.length_dropLast
  exact ⟨l.dropLast, l.getLast hne, e, by omega⟩
end Ks
/- Slices of whatever elements of so many cells: what they read as, what a call owns, what is appended. Plain. No program is in sight. -/
namespace Ks
open Go Go.RowKit
set_option linter.unusedVariables false
set_option linter.unusedSimpArgs false

/-- how an element lies: in so many cells -/
structure Enc (α : Type) where
  k : Nat
  enc : α → List Value
  len : ∀ x, (enc x).length = k
  one : ∀ x, ∀ u ∈ enc x, u.oneCell' = true
  pos : 0 < k

namespace Enc
variable {α : Type} (E : Enc α)

def cs (l : List α) : List Value := l.flatMap E.enc
theorem cs_nil : E.cs [] = [] := rfl
theorem cs_cons (x : α) (l : List α) : E.cs (x :: l) = E.enc x ++ E.cs l := by simp [cs]
theorem cs_append (a b : List α) : E.cs (a ++ b) = E.cs a ++ E.cs b := by simp [cs]
theorem cs_length (l : List α) : (E.cs l).length = l.length * E.k := by
  induction l with
  | nil => simp [cs_nil]
  | cons x l ih => rw [cs_cons, List.length_append, ih, E.len, List.length_cons, Nat.add_mul, Nat.one_mul, Nat.add_comm]
theorem cs_get (l : List α) (i : Nat) (x : α) (h : l[i]? = some x) (j : Nat) (hj : j < E.k) : (E.cs l)[i * E.k + j]? = (E.enc x)[j]? := by
  induction l generalizing i with
  | nil => simp at h
  | cons y l ih =>
    rw [cs_cons]
    match i, h with
    | 0, h =>
      simp only [List.getElem?_cons_zero, Option.some.injEq] at h
      subst h
      rw [Nat.zero_mul, Nat.zero_add, List.getElem?_append_left (by rw [E.len]; exact hj)]
    | i + 1, h =>
      rw [List.getElem?_append_right (by rw [E.len, Nat.add_mul]; omega), E.len, show (i + 1) * E.k + j - E.k = i * E.k + j by rw [Nat.add_mul]; omega]
      exact ih i (by simpa using h)
theorem cs_cell (l : List α) (m : Nat) (u : Value) (h : (E.cs l)[m]? = some u) : ∃ i x j, l[i]? = some x ∧ j < E.k ∧ m = i * E.k + j ∧ (E.enc x)[j]? = some u := by
  have hm : m < l.length * E.k := by rw [← cs_length]; exact (List.getElem?_eq_some_iff.1 h).1
  have hi : m / E.k < l.length := Nat.div_lt_of_lt_mul (by rw [Nat.mul_comm]; exact hm)
  have hj : m % E.k < E.k := Nat.mod_lt _ E.pos
  have e : m / E.k * E.k + m % E.k = m := by rw [Nat.mul_comm]; exact Nat.div_add_mod m E.k
  have hg := E.cs_get l (m / E.k) l[m / E.k] (List.getElem?_eq_getElem hi) (m % E.k) hj
  rw [e, h] at hg
  exact ⟨_, _, _, List.getElem?_eq_getElem hi, hj, e.symm, hg.symm⟩
theorem cs_one (l : List α) : ∀ u ∈ E.cs l, u.oneCell' = true := by
  intro u hu
  simp only [cs, List.mem_flatMap] at hu
  obtain ⟨x, _, hx⟩ := hu
  exact E.one x u hx
theorem cs_take (l : List α) (n : Nat) : (E.cs l).take (n * E.k) = E.cs (l.take n) := by
  induction l generalizing n with
  | nil => simp [cs_nil]
  | cons x l ih =>
    cases n with
    | zero => simp [cs_nil]
    | succ n =>
      rw [List.take_succ_cons, cs_cons, cs_cons, List.take_append, List.take_of_length_le (by rw [E.len, Nat.add_mul]; omega), E.len, show (n + 1) * E.k - E.k = n * E.k by rw [Nat.add_mul]; omega, ih]

end Enc

variable {α : Type} {E : Enc α}

/-- a slice value reads as these -/
def Rd (E : Enc α) (w : World) (v : Value) (l : List α) : Prop :=
  ∃ a cap, v = .slice a l.length cap ∧ l.length ≤ cap ∧ (a = none → cap = 0) ∧ ∀ i x, l[i]? = some x →
    ∃ b o, a = some ⟨b, o, none⟩ ∧ b < w.heap.size ∧ ∀ j u, (E.enc x)[j]? = some u → w.cell? ⟨b, o + i * E.k + j, none⟩ = some u
/-- a slice value owns them: the block is its own -/
def Row (E : Enc α) (w : World) (B : Nat) (T : TypeId) (v : Value) (l : List α) : Prop := w.ownsRow B T E.k v l.length (E.cs l)

theorem Rd.keep {w w' : World} {v : Value} {l : List α} (h : Rd E w v l) (hs : w.heap.size ≤ w'.heap.size) (hb : ∀ b, v.ownBlock = some b → w'.heap[b]? = w.heap[b]?) : Rd E w' v l := by
  obtain ⟨a, cap, rfl, hc, hn, h⟩ := h
  refine ⟨a, cap, rfl, hc, hn, fun i x hx => ?_⟩
  obtain ⟨b, o, rfl, hlt, h1⟩ := h i x hx
  exact ⟨b, o, rfl, Nat.lt_of_lt_of_le hlt hs, fun j u hu => (World.cell?_of_block (a := ⟨b, o + i * E.k + j, none⟩) (hb b rfl)).trans (h1 j u hu)⟩
theorem Rd.below {w w' : World} {v : Value} {l : List α} (h : Rd E w v l) (hb : Below w.heap.size w w') : Rd E w' v l := by
  obtain ⟨a, cap, rfl, hc, hn, h⟩ := h
  refine ⟨a, cap, rfl, hc, hn, fun i x hx => ?_⟩
  obtain ⟨b, o, rfl, hlt, h1⟩ := h i x hx
  exact ⟨b, o, rfl, Nat.lt_of_lt_of_le hlt hb.size, fun j u hu => (World.cell?_of_block (a := ⟨b, o + i * E.k + j, none⟩) (hb.block b hlt)).trans (h1 j u hu)⟩
theorem Rd.nil (w : World) : Rd E w (.slice none 0 0) [] := ⟨none, 0, rfl, Nat.le_refl _, fun _ => rfl, fun i x hx => by simp at hx⟩
theorem Rd.shape {w : World} {v : Value} {l : List α} (h : Rd E w v l) : ∃ a cap, v = .slice a l.length cap ∧ l.length ≤ cap ∧ (a = none → cap = 0) := by
  obtain ⟨a, cap, e, hc, hn, _⟩ := h
  exact ⟨a, cap, e, hc, hn⟩
/-- an element's cells -/
theorem Rd.at {w : World} {a : Option Addr} {n c : Nat} {l : List α} (h : Rd E w (.slice a n c) l) (i : Nat) (x : α) (hx : l[i]? = some x) :
    ∃ b o, a = some ⟨b, o, none⟩ ∧ b < w.heap.size ∧ ∀ j u, (E.enc x)[j]? = some u → w.cell? ⟨b, o + i * E.k + j, none⟩ = some u := by
  obtain ⟨a', cap, e, hc, hn, hh⟩ := h
  cases e
  exact hh i x hx
theorem Rd.cells {w : World} {b o n c : Nat} {l : List α} (h : Rd E w (.slice (some ⟨b, o, none⟩) n c) l) : n = l.length ∧ ∀ j u, (E.cs l)[j]? = some u → w.cell? ⟨b, o + j, none⟩ = some u := by
  have hh := h
  obtain ⟨a, cap, e, _⟩ := h
  cases e
  refine ⟨rfl, fun m u hm => ?_⟩
  obtain ⟨i, x, j, hx, hj, rfl, hu⟩ := E.cs_cell l m u hm
  obtain ⟨b', o', e, _, h1⟩ := hh.at i x hx
  cases e
  rw [← Nat.add_assoc]
  exact h1 j u hu
theorem Rd.of_cells {w : World} {b o c : Nat} {l : List α} (hb : b < w.heap.size) (hc : l.length ≤ c) (h : ∀ j u, (E.cs l)[j]? = some u → w.cell? ⟨b, o + j, none⟩ = some u) : Rd E w (.slice (some ⟨b, o, none⟩) l.length c) l := by
  refine ⟨_, c, rfl, hc, fun e => by simp at e, fun i x hx => ⟨b, o, rfl, hb, fun j u hu => ?_⟩⟩
  have hj : j < E.k := by have := (List.getElem?_eq_some_iff.1 hu).1; rwa [E.len] at this
  have := h (i * E.k + j) u (by rw [E.cs_get l i x hx j hj]; exact hu)
  rwa [← Nat.add_assoc] at this
/-- a block known whole -/
theorem Rd.block {w : World} {b : Nat} {l : List α} {T : TypeId} {fr : Nat × Nat} {cs : Array Value} (h : w.heap[b]? = some (.cells cs T fr)) (e : cs.toList = E.cs l) : Rd E w (.slice (some ⟨b, 0, none⟩) l.length l.length) l :=
  Rd.of_cells (lt_of_block h) (Nat.le_refl _) fun j u hj => by
    rw [Nat.zero_add, cell_of_row w b j cs T fr h, ← Array.getElem?_toList, e]
    exact hj

theorem Rd.single {w : World} {b : Nat} (x : α) {T : TypeId} {fr : Nat × Nat} {cs : Array Value} (h : w.heap[b]? = some (.cells cs T fr)) (e : cs.toList = E.enc x) : Rd E w (.slice (some ⟨b, 0, none⟩) 1 1) [x] :=
  Rd.block (l := [x]) h (by rw [e, E.cs_cons, E.cs_nil, List.append_nil])

theorem Row.rd {w : World} {B : Nat} {T : TypeId} {v : Value} {l : List α} (h : Row E w B T v l) : Rd E w v l := by
  rcases h.2 with ⟨rfl, h0⟩ | ⟨g, cap, cur, rfl, hb, hg, hn, hc, hs, ht⟩
  · have : l = [] := List.length_eq_zero_iff.1 h0
    subst this
    exact Rd.nil w
  · refine Rd.of_cells (lt_of_block hg) hn fun j u hj => ?_
    rw [Nat.zero_add, cell_of_row w g j cur T (0, 0) hg]
    rw [← ht, List.getElem?_take] at hj
    split at hj
    · simpa using hj
    · cases hj
theorem Row.nil (w : World) (B : Nat) (T : TypeId) : Row E w B T (.slice none 0 0) [] := World.ownsRow_nil w B T E.k
theorem Row.made (w : World) (B : Nat) (T : TypeId) (h : B ≤ w.heap.size) : Row E (w.alloc (.cells #[] T)) B T (.slice (some ⟨w.heap.size, 0, none⟩) 0 0) [] :=
  World.ownsRow_made w #[] 0 h (Nat.zero_le _) (by simp)
theorem Row.keep {w w' : World} {B : Nat} {T : TypeId} {v : Value} {l : List α} (h : Row E w B T v l) (hb : ∀ b, v.ownBlock = some b → w'.heap[b]? = w.heap[b]?) : Row E w' B T v l := by
  refine ⟨h.1, ?_⟩
  rcases h.2 with h2 | ⟨g, cap, cur, rfl, r1, r2, r3⟩
  · exact Or.inl h2
  · exact Or.inr ⟨g, cap, cur, rfl, r1, (hb g rfl).trans r2, r3⟩
theorem Row.lt {w : World} {B : Nat} {T : TypeId} {v : Value} {l : List α} (h : Row E w B T v l) {b : Nat} (hb : v.ownBlock = some b) : B ≤ b ∧ b < w.heap.size := World.ownsRow.lt h b hb
theorem Row.below {w w' : World} {B : Nat} {T : TypeId} {v : Value} {l : List α} (h : Row E w B T v l) (hb : Below w.heap.size w w') : Row E w' B T v l :=
  h.keep fun b e => hb.block b (h.lt e).2
theorem Row.down {w : World} {B B' : Nat} {T : TypeId} {v : Value} {l : List α} (h : Row E w B T v l) (hB : B' ≤ B) : Row E w B' T v l := by
  refine ⟨h.1, ?_⟩
  rcases h.2 with h2 | ⟨g, cap, cur, r0, r1, r2⟩
  · exact Or.inl h2
  · exact Or.inr ⟨g, cap, cur, r0, Nat.le_trans hB r1, r2⟩
theorem Row.shape {w : World} {B : Nat} {T : TypeId} {v : Value} {l : List α} (h : Row E w B T v l) : ∃ a cap, v = .slice a l.length cap ∧ l.length ≤ cap ∧ (a = none → cap = 0) := h.rd.shape
/-- an own row that has elements -/
theorem Row.pos {w : World} {B : Nat} {T : TypeId} {v : Value} {l : List α} (h : Row E w B T v l) (hl : 0 < l.length) : ∃ g cap, v = .slice (some ⟨g, 0, none⟩) l.length cap ∧ l.length ≤ cap ∧ B ≤ g ∧ g < w.heap.size ∧ cap ≤ maxLen := by
  rcases h.2 with ⟨_, h0⟩ | ⟨g, cap, cur, rfl, hb, hg, hn, hc, _⟩
  · omega
  · exact ⟨g, cap, rfl, hn, hb, lt_of_block hg, hc⟩
/-- the first so many of an own row -/
theorem Row.take {w : World} {B : Nat} {T : TypeId} {g n cap : Nat} {l : List α} (h : Row E w B T (.slice (some ⟨g, 0, none⟩) n cap) l) (k : Nat) (hk : k ≤ l.length) : Row E w B T (.slice (some ⟨g, 0, none⟩) k cap) (l.take k) := by
  have hl : (l.take k).length = k := by rw [List.length_take]; omega
  refine ⟨E.cs_length _, ?_⟩
  rcases h.2 with ⟨e, _⟩ | ⟨g', cap', cur, e, hb, hg, hn, hc, hs, ht⟩
  · cases e
  · cases e
    refine Or.inr ⟨g, cap, cur, by rw [hl], hb, hg, by rw [hl]; omega, hc, hs, ?_⟩
    rw [hl, ← E.cs_take l k, ← ht, List.take_take]
    congr 1
    exact (Nat.min_eq_left (Nat.mul_le_mul_right _ hk)).symm
/-- the cells behind so many -/
theorem Rd.drop {w : World} {b o n cap k : Nat} {l : List α} (h : Rd E w (.slice (some ⟨b, o, none⟩) n cap) l) (hk : k ≤ l.length) (a : Option Addr) (ha : k < l.length → a = some ⟨b, o + k * E.k, none⟩) (ha2 : a ≠ none) (c : Nat) (hc : l.length - k ≤ c) :
    Rd E w (.slice a (l.length - k) c) (l.drop k) := by
  refine ⟨a, c, by rw [List.length_drop], by rw [List.length_drop]; exact hc, fun e => absurd e ha2, fun i x hx => ?_⟩
  rw [List.getElem?_drop] at hx
  have hlt : k + i < l.length := (List.getElem?_eq_some_iff.1 hx).1
  obtain ⟨b', o', e, hb, h1⟩ := h.at (k + i) x hx
  cases e
  refine ⟨b, o + k * E.k, ha (by omega), hb, fun j u hu => ?_⟩
  have := h1 j u hu
  rw [show o + k * E.k + i * E.k + j = o + (k + i) * E.k + j by rw [Nat.add_mul]; omega]
  exact this
theorem Rd.take {w : World} {b o n cap k : Nat} {l : List α} (h : Rd E w (.slice (some ⟨b, o, none⟩) n cap) l) (hk : k ≤ l.length) (c : Nat) (hc : k ≤ c) :
    Rd E w (.slice (some ⟨b, o, none⟩) k c) (l.take k) := by
  have hl : (l.take k).length = k := by rw [List.length_take]; omega
  refine ⟨_, c, by rw [hl], by rw [hl]; exact hc, fun e => by simp at e, fun i x hx => ?_⟩
  have hi : i < k := by have := (List.getElem?_eq_some_iff.1 hx).1; omega
  rw [List.getElem?_take, if_pos hi] at hx
  exact h.at i x hx

theorem run_append_none {P : Program} (w : World) (t ty e : TypeId) (i : TypeInfo) (ht : P.underlying t = some (.slice e)) (hi : P.info? e = some i) (a : Option Addr) (n cap : Nat) (hnc : n ≤ cap) (b : Option Addr) (c2 : Nat) :
    (Builtin.append_ #[t, t] ty #[.slice a n cap, .slice b 0 c2]).run P w = .ok (.slice a n cap) w := by
  cases b with
  | none => cases a <;> simp [Builtin.append_, run_underlying ht, Go.sizeOf, typeInfo, hi, Builtin.lenOf, Builtin.firstCells, hnc, storeCells]
  | some b =>
    have hf := run_firstCells_some (P := P) w i.size 0 b 0 c2 [] (by simp) (by simp)
    cases a <;> simp [Builtin.append_, run_underlying ht, Go.sizeOf, typeInfo, hi, Builtin.lenOf, hf, hnc, storeCells]

/-- an element type's row of the table, for `append` -/
structure ElemT (P : Program) (t e : TypeId) (k bytes : Nat) : Prop where
  under : P.underlying t = some (.slice e)
  info : ∃ i z, P.info? e = some i ∧ i.zero = some z ∧ i.size = k ∧ i.bytes = bytes ∧ z.cells.size = k
theorem elemT_of {P : Program} {t e : TypeId} {k bytes : Nat} {z : Value} (h : P.underlying t = some (.slice e)) (hi : (P.info? e).map (fun i => (i.zero, i.size, i.bytes)) = some (some z, k, bytes)) (hz : z.cells.size = k) : ElemT P t e k bytes := by
  obtain ⟨i, h1, h2, h3, h4⟩ := info_parts hi
  exact ⟨h, i, z, h1, h2, h3, h4, hz⟩

/-- what append makes of an own row -/
def Grew (E : Enc α) (w w' : World) (B : Nat) (e : TypeId) (v v' : Value) (l : List α) : Prop :=
  Row E w' B e v' l ∧ w.grownBy w' v.ownBlock ∧ (v'.ownBlock = v.ownBlock ∨ ∀ b, v'.ownBlock = some b → w.heap.size ≤ b) ∧ (l ≠ [] → v' ≠ .slice none 0 0)

theorem run_append_row {P : Program} {t ty e : TypeId} {bytes : Nat} (T : ElemT P t e E.k bytes) (w : World) (B : Nat)
    (v lv : Value) (L l : List α) (hown : Row E w B e v L) (hl : Rd E w lv l) (hB : B ≤ w.heap.size) (b1 : L.length + l.length ≤ 140000000) (b2 : bytes ≤ 1000) :
    ∃ v' w', (Builtin.append_ #[t, t] ty #[v, lv]).run P w = .ok v' w' ∧ Grew E w w' B e v v' (L ++ l) := by
  obtain ⟨h1, i, z, h2, h3, h4, h5, h6⟩ := T
  have hmax : L.length + l.length ≤ maxLen := by unfold maxLen; omega
  have hby : (L.length + l.length) * bytes ≤ 140737488355328 := by
    have : (L.length + l.length) * bytes ≤ 140000000 * 1000 := Nat.mul_le_mul b1 b2
    omega
  have hne : ∀ {w' : World} {v' : Value}, Row E w' B e v' (L ++ l) → L ++ l ≠ [] → v' ≠ .slice none 0 0 := fun r hn e => by
    obtain ⟨a, cap, e2, _⟩ := r.shape
    rw [e] at e2
    simp only [Value.slice.injEq] at e2
    exact hn (List.length_eq_zero_iff.1 e2.2.1.symm)
  cases l with
  | nil =>
    obtain ⟨a, cap, rfl, hc, _⟩ := hown.shape
    obtain ⟨b, c2, rfl, _⟩ := hl
    have r : Row E w B e (.slice a L.length cap) (L ++ []) := by rw [List.append_nil]; exact hown
    exact ⟨_, w, run_append_none w t ty e i h1 h2 a _ cap hc b c2, r, World.grownBy.refl _ _, Or.inl rfl, hne r⟩
  | cons x l =>
    generalize hm : x :: l = m at *
    have hpos : 0 < m.length := by rw [← hm]; simp
    obtain ⟨a, c2, rfl, _, _⟩ := hl.shape
    obtain ⟨b, o, rfl, _⟩ := hl.at 0 m[0] (List.getElem?_eq_getElem hpos)
    have hsrc : ∀ j u, (E.cs m)[j]? = some u → w.cell? ((⟨b, o, none⟩ : Addr).add j) = some u := fun j u hj => by rw [Addr.add_lit]; exact hl.cells.2 j u hj
    have hlen2 : (L ++ m).length = L.length + m.length := List.length_append
    rcases id hown.2 with ⟨rfl, h0⟩ | ⟨g, cap, cur, rfl, hBg, hgb, hn, hc, hsz, ht⟩
    · obtain rfl : L = [] := List.length_eq_zero_iff.1 h0
      obtain ⟨v', w', hrun, r1, r2, _⟩ := run_append_own (P := P) w w.heap.size t ty e i z E.k bytes h1 h2 h3 h4 h5 h6 E.pos (.slice none 0 0) 0 [] (World.ownsRow_nil w _ e E.k) ⟨b, o, none⟩ m.length c2 (E.cs m) (E.cs_length m) hsrc (E.cs_one m) (by simpa using hmax) (by simpa using hby) (Nat.le_refl _)
      rw [Nat.zero_add, List.nil_append] at r1
      have r : Row E w' B e v' ([] ++ m) := Row.down (B := w.heap.size) r1 hB
      exact ⟨v', w', hrun, r, r2, Or.inr fun b hb => (r1.lt b hb).1, hne r⟩
    · by_cases hfit : L.length + m.length ≤ cap
      · obtain ⟨w', hrun, r1, r2⟩ := run_append_fits (P := P) w B t ty e i E.k h1 h2 h4 g L.length cap (E.cs L) hown ⟨b, o, none⟩ m.length c2 (E.cs m) (E.cs_length m) hsrc (E.cs_one m) hfit
        have r : Row E w' B e (.slice (some ⟨g, 0, none⟩) (L.length + m.length) cap) (L ++ m) := by
          show w'.ownsRow B e E.k _ (L ++ m).length (E.cs (L ++ m))
          rw [hlen2, E.cs_append]
          exact r1
        exact ⟨_, w', hrun, r, r2, Or.inl rfl, hne r⟩
      · obtain ⟨v', w', hrun, r1, r2⟩ := run_append_arg_grows (P := P) w t ty e i z E.k bytes h1 h2 h3 h4 h5 h6 E.pos ⟨g, 0, none⟩ L.length cap (E.cs L) (E.cs_length L) (fun j u hj => (Row.rd hown).cells.2 j u hj |> fun h => by rw [Addr.add_lit]; exact h) ⟨b, o, none⟩ m.length c2 (E.cs m) (E.cs_length m) hsrc (by omega) hmax hby
        have r : Row E w' B e v' (L ++ m) := by
          refine Row.down (B := w.heap.size) ?_ hB
          show w'.ownsRow _ e E.k _ (L ++ m).length (E.cs (L ++ m))
          rw [hlen2, E.cs_append]
          exact r1
        exact ⟨v', w', hrun, r, ⟨r2.os, r2.tape, r2.output, r2.size, fun k hk _ => r2.block k hk (by simp)⟩, Or.inr fun b hb => (r1.lt b hb).1, hne r⟩

/-- `append` at a plain region's list -/
theorem wpList_append_row {P : Program} (w : World) {ops : Array Oper} {rest : List Oper} {o : Oper} {a : Act} {Q : Exit → Act → World → Prop} (hg : o.guard = none) (s x : Operand) (t : TypeId)
    (ho : o.op = .call { callee := .builtin .append, args := #[s, x], argTypes := #[t, t] }) {e : TypeId} {bytes : Nat} (T : ElemT P t e E.k bytes) (B : Nat)
    (v lv : Value) (L l : List α) (hs : a.eval s = v) (hx : a.eval x = lv) (hown : Row E w B e v L) (hl : Rd E w lv l) (hB : B ≤ w.heap.size) (b1 : L.length + l.length ≤ 140000000) (b2 : bytes ≤ 1000)
    (hK : ∀ v' w', Grew E w w' B e v v' (L ++ l) → wpList P ops Q rest (a.put o.dst v') w') : wpList P ops Q (o :: rest) a w := by
  refine wpList_plain hg fun K hK' => ?_
  obtain ⟨v', w', hrun, r⟩ := run_append_row (P := P) (t := t) (ty := o.type) T w B v lv L l hown hl hB b1 b2
  unfold Oper.wp
  simp [execOp, ho, resolve, invoke, builtin, hs, hx, hrun, Result.andThen]
  exact hK' _ _ (hK v' w' r)

/-- `append` at a step of a region that draws its order, by its run -/
theorem step_append_of {P : Program} {ops : Array Oper} {o : Oper} {a : Act} {w : World} {K : Act → World → Prop} {Q : Exit → Act → World → Prop} {F : Prop} (hg : o.guard = none) (s x : Operand) (t : TypeId)
    (hop : o.op = Op.call { callee := Callee.builtin Builtin.append, args := #[s, x], argTypes := #[t, t] }) {v lv v' : Value} {w' : World} (hrun : (Builtin.append_ #[t, t] o.type #[v, lv]).run P w = .ok v' w')
    (hs : a.eval s = v) (hx : a.eval x = lv) (hK : K (a.put o.dst v') w') : if Region.wanted o (yielded ops a.tmps) = true then Oper.wp P o a w K Q else F := by
  have hw : Region.wanted o (yielded ops a.tmps) = true := by simp [Region.wanted, hg]
  rw [if_pos hw]
  unfold Oper.wp
  simp [execOp, hop, resolve, invoke, builtin, hs, hx, hrun, Result.andThen]
  exact hK

/-- `append` at a step of a region that draws its order, by its law -/
theorem step_append_row {P : Program} {ops : Array Oper} {o : Oper} {a : Act} {w : World} {K : Act → World → Prop} {Q : Exit → Act → World → Prop} {F : Prop} (hg : o.guard = none) (s x : Operand) (t : TypeId)
    (hop : o.op = Op.call { callee := Callee.builtin Builtin.append, args := #[s, x], argTypes := #[t, t] }) {e : TypeId} {bytes : Nat} (T : ElemT P t e E.k bytes) (B : Nat)
    (v lv : Value) (L l : List α) (hs : a.eval s = v) (hx : a.eval x = lv) (hown : Row E w B e v L) (hl : Rd E w lv l) (hB : B ≤ w.heap.size) (b1 : L.length + l.length ≤ 140000000) (b2 : bytes ≤ 1000)
    (hK : ∀ v' w', Grew E w w' B e v v' (L ++ l) → K (a.put o.dst v') w') : if Region.wanted o (yielded ops a.tmps) = true then Oper.wp P o a w K Q else F := by
  obtain ⟨v', w', hrun, r⟩ := run_append_row (P := P) (t := t) (ty := o.type) T w B v lv L l hown hl hB b1 b2
  exact step_append_of hg s x t hop hrun hs hx (hK v' w' r)

theorem Grew.below {w w' w0 : World} {B B0 : Nat} {e : TypeId} {v v' : Value} {l : List α} (h : Grew E w w' B e v v' l) (hb : Below B0 w0 w) (hB : B0 ≤ w.heap.size) (hv : ∀ b, v.ownBlock = some b → B0 ≤ b) : Below B0 w0 w' :=
  hb.grown h.2.1 hB hv
theorem Grew.low {w w' : World} {B B0 : Nat} {e : TypeId} {v v' : Value} {l : List α} (h : Grew E w w' B e v v' l) (hB : B0 ≤ w.heap.size) (hv : ∀ b, v.ownBlock = some b → B0 ≤ b) : ∀ b, v'.ownBlock = some b → B0 ≤ b := by
  intro b hb
  rcases h.2.2.1 with e | e
  · exact hv b (e ▸ hb)
  · exact Nat.le_trans hB (e b hb)
theorem Grew.block {w w' : World} {B : Nat} {e : TypeId} {v v' : Value} {l : List α} (h : Grew E w w' B e v v' l) {b : Nat} {o : Obj} (hb : w.heap[b]? = some o) (hv : v.ownBlock ≠ some b) : w'.heap[b]? = some o :=
  (h.2.1.block b (lt_of_block hb) (fun e => hv e.symm)).trans hb
theorem Grew.rd {w w' : World} {B : Nat} {e : TypeId} {v v' : Value} {l : List α} {β : Type} {E' : Enc β} {u : Value} {m : List β} (h : Grew E w w' B e v v' l) (hr : Rd E' w u m) (hv : ∀ b, u.ownBlock = some b → v.ownBlock ≠ some b) : Rd E' w' u m := by
  obtain ⟨a, cap, rfl, hc, hn, hh⟩ := hr
  refine ⟨a, cap, rfl, hc, hn, fun i x hx => ?_⟩
  obtain ⟨b, o, rfl, hlt, h1⟩ := hh i x hx
  have e := h.2.1.block b hlt (fun e => hv b rfl e.symm)
  exact ⟨b, o, rfl, Nat.lt_of_lt_of_le hlt h.2.1.size, fun j u hu => (World.cell?_of_block (a := ⟨b, o + i * E'.k + j, none⟩) e).trans (h1 j u hu)⟩

end Ks
/- A thing that was made, with a row of its own: what stands of it, what a call turns. Plain. No program is in sight. -/
namespace Ks
open Go Go.RowKit
set_option linter.unusedVariables false

variable {α : Type} {E : Enc α}

/-- a thing of two cells: that it was made, and its row -/
structure Held (E : Enc α) (w : World) (TN TL : TypeId) (n : Nat) (v : Value) (l : List α) : Prop where
  blk : w.heap[n]? = some (.cells #[.bool true, v] TN (0, 0))
  own : Row E w 0 TL v l
  ne : v.ownBlock ≠ some n
theorem Held.lt {w : World} {TN TL : TypeId} {n : Nat} {v : Value} {l : List α} (h : Held E w TN TL n v l) : n < w.heap.size := lt_of_block h.blk
theorem Held.keep {w w' : World} {TN TL : TypeId} {n : Nat} {v : Value} {l : List α} (h : Held E w TN TL n v l) (hb : Below w.heap.size w w') : Held E w' TN TL n v l :=
  ⟨(hb.block n h.lt).trans h.blk, h.own.below hb, h.ne⟩
theorem Held.cells {w : World} {TN TL : TypeId} {n : Nat} {v : Value} {l : List α} (h : Held E w TN TL n v l) : w.cell? ⟨n, 0, none⟩ = some (.bool true) ∧ w.cell? ⟨n, 1, none⟩ = some v ∧ w.frozen? ⟨n, 0, none⟩ = false ∧ w.frozen? ⟨n, 1, none⟩ = false :=
  ⟨by rw [cell_of_row w n 0 _ _ _ h.blk]; rfl, by rw [cell_of_row w n 1 _ _ _ h.blk]; rfl, frozen_of_row w n 0 _ _ h.blk, frozen_of_row w n 1 _ _ h.blk⟩
/-- a thing that is none, or that no call made -/
def Dead (w : World) (TN : TypeId) (v : Value) : Prop := v = .pointer none ∨ ∃ n, v = .pointer (some ⟨n, 0, none⟩) ∧ w.heap[n]? = some (.cells #[.bool false, .slice none 0 0] TN (0, 0))
theorem Dead.keep {w w' : World} {TN : TypeId} {v : Value} (h : Dead w TN v) (hb : Below w.heap.size w w') : Dead w' TN v := by
  rcases h with h | ⟨n, rfl, h⟩
  · exact Or.inl h
  · exact Or.inr ⟨n, rfl, (hb.block n (lt_of_block h)).trans h⟩

/-- only the thing and its own row are turned -/
structure Turned (w w' : World) (n : Nat) (v v' : Value) : Prop where
  os : w'.os = w.os
  tape : w'.tape = w.tape
  output : w'.output = w.output
  size : w.heap.size ≤ w'.heap.size
  block : ∀ k, k < w.heap.size → k ≠ n → v.ownBlock ≠ some k → w'.heap[k]? = w.heap[k]?
  own : v'.ownBlock = v.ownBlock ∨ ∀ b, v'.ownBlock = some b → w.heap.size ≤ b
theorem Turned.of_below {w w' : World} {n : Nat} {v : Value} (hb : Below w.heap.size w w') : Turned w w' n v v :=
  ⟨hb.os, hb.tape, hb.output, hb.size, fun k hk _ _ => hb.block k hk, Or.inl rfl⟩
theorem Turned.below {w w' : World} {n B : Nat} {v v' : Value} (h : Turned w w' n v v') (hn : B ≤ n) (hv : ∀ b, v.ownBlock = some b → B ≤ b) (hB : B ≤ w.heap.size) : Below B w w' :=
  ⟨h.os, h.tape, h.output, h.size, fun k hk => h.block k (by omega) (by omega) fun e => by have := hv k e; omega⟩
theorem Turned.after {w w1 w2 : World} {n : Nat} {v v' : Value} (hb : Below w.heap.size w w1) (h : Turned w1 w2 n v v') : Turned w w2 n v v' :=
  ⟨h.os.trans hb.os, h.tape.trans hb.tape, h.output.trans hb.output, Nat.le_trans hb.size h.size, fun k hk h1 h2 => (h.block k (Nat.lt_of_lt_of_le hk hb.size) h1 h2).trans (hb.block k hk),
    h.own.imp id fun h b e => Nat.le_trans hb.size (h b e)⟩
theorem Turned.then {w w1 w2 : World} {n : Nat} {v v' : Value} (h : Turned w w1 n v v') (hb : Below w1.heap.size w1 w2) : Turned w w2 n v v' :=
  ⟨hb.os.trans h.os, hb.tape.trans h.tape, hb.output.trans h.output, Nat.le_trans h.size hb.size, fun k hk h1 h2 => (hb.block k (Nat.lt_of_lt_of_le hk h.size)).trans (h.block k hk h1 h2), h.own⟩
theorem Turned.low {w w' : World} {n B : Nat} {v v' : Value} (h : Turned w w' n v v') (hv : ∀ b, v.ownBlock = some b → B ≤ b) (hB : B ≤ w.heap.size) : ∀ b, v'.ownBlock = some b → B ≤ b := by
  intro b hb
  rcases h.own with e | e
  · exact hv b (e ▸ hb)
  · exact Nat.le_trans hB (e b hb)
theorem set_ne {w : World} {n k o : Nat} (u : Value) (h : k ≠ n) : (w.setCell ⟨n, o, none⟩ u).heap[k]? = w.heap[k]? := Below.heap_setCell _ _ _ _ h
theorem set_one {w : World} {n : Nat} {c0 c1 : Value} {T : TypeId} (u : Value) (h : w.heap[n]? = some (.cells #[c0, c1] T (0, 0))) : (w.setCell ⟨n, 1, none⟩ u).heap[n]? = some (.cells #[c0, u] T (0, 0)) := by
  simp [World.setCell, Array.getElem?_modify, h]
theorem Rd.put {w : World} {v : Value} {l : List α} (h : Rd E w v l) {m o : Nat} (u : Value) (hm : v.ownBlock ≠ some m) : Rd E (w.setCell ⟨m, o, none⟩ u) v l :=
  h.keep (by simp) fun b e => set_ne u fun e2 => hm (by rw [e, e2])
theorem Rd.turned {w w' : World} {n : Nat} {v v' u : Value} {β : Type} {E' : Enc β} {l : List β} (hl : Rd E' w u l) (h : Turned w w' n v v') (h1 : u.ownBlock ≠ some n) (h2 : ∀ b, u.ownBlock = some b → v.ownBlock ≠ some b) : Rd E' w' u l := by
  obtain ⟨a, cap, rfl, hc, hn, hh⟩ := hl
  refine ⟨a, cap, rfl, hc, hn, fun i x hx => ?_⟩
  obtain ⟨b, o, rfl, hlt, hcs⟩ := hh i x hx
  have e := h.block b hlt (fun e => h1 (by simp [Value.ownBlock, e])) (h2 b rfl)
  exact ⟨b, o, rfl, Nat.lt_of_lt_of_le hlt h.size, fun j u hu => (World.cell?_of_block (a := ⟨b, o + i * E'.k + j, none⟩) e).trans (hcs j u hu)⟩
theorem Rd.lt' {w : World} {v : Value} {l : List α} (h : Rd E w v l) (hl : l ≠ []) {b : Nat} (hb : v.ownBlock = some b) : b < w.heap.size := by
  cases l with
  | nil => exact absurd rfl hl
  | cons x l =>
    obtain ⟨a, cap, rfl, _⟩ := h.shape
    obtain ⟨b', o, rfl, hb', _⟩ := h.at 0 x rfl
    simp [Value.ownBlock] at hb
    omega
theorem Rd.empty {w : World} {v : Value} (h : Rd E w v []) (w' : World) : Rd E w' v [] := by
  obtain ⟨a, cap, rfl, h1, h2, _⟩ := h
  exact ⟨a, cap, rfl, h1, h2, fun i x hx => by simp at hx⟩

theorem Row.any {w : World} {B : Nat} {T : TypeId} {v : Value} {l : List α} (h : Row E w B T v l) : ∃ a n cap, v = .slice a n cap := by
  obtain ⟨a, cap, e, _⟩ := h.shape
  exact ⟨a, _, cap, e⟩
/-- the store that ends a call -/
theorem Held.store {w w2 : World} {TN TL : TypeId} {n : Nat} {v v' : Value} {L L' : List α} (h : Held E w TN TL n v L) (hg : Grew E w w2 0 TL v v' L') :
    Held E (w2.setCell ⟨n, 1, none⟩ v') TN TL n v' L' ∧ Turned w (w2.setCell ⟨n, 1, none⟩ v') n v v' := by
  obtain ⟨ho, hg, hor, _⟩ := hg
  have hne : v'.ownBlock ≠ some n := by
    rcases hor with e | e
    · rw [e]; exact h.ne
    · intro e2; have := e n e2; have := h.lt; omega
  have hb2 : w2.heap[n]? = some (.cells #[.bool true, v] TN (0, 0)) := (hg.block n h.lt (fun e => h.ne e.symm)).trans h.blk
  have hs : (w2.setCell ⟨n, 1, none⟩ v').heap.size = w2.heap.size := by simp
  refine ⟨⟨set_one v' hb2, ho.keep fun b e => set_ne v' fun e2 => hne (by rw [e, e2]), hne⟩, ?_⟩
  have hB : Below 0 w2 (w2.setCell ⟨n, 1, none⟩ v') := (Below.refl 0 w2).setCell (Nat.zero_le _) v'
  refine ⟨hB.os.trans hg.os, hB.tape.trans hg.tape, hB.output.trans hg.output, by rw [hs]; exact hg.size, fun k hk h1 h2 => ?_, hor⟩
  rw [set_ne v' h1]
  exact hg.block k hk fun e => h2 e.symm

/-- cells of a block known whole -/
theorem blk1 {w : World} {b : Nat} {c0 : Value} {T : TypeId} (h : w.heap[b]? = some (.cells #[c0] T (0, 0))) : w.cell? ⟨b, 0, none⟩ = some c0 ∧ w.frozen? ⟨b, 0, none⟩ = false :=
  ⟨by rw [cell_of_row w b 0 _ _ _ h]; rfl, frozen_of_row w b 0 _ _ h⟩
theorem blk2 {w : World} {b : Nat} {c0 c1 : Value} {T : TypeId} (h : w.heap[b]? = some (.cells #[c0, c1] T (0, 0))) : w.cell? ⟨b, 0, none⟩ = some c0 ∧ w.cell? ⟨b, 1, none⟩ = some c1 ∧ w.frozen? ⟨b, 0, none⟩ = false ∧ w.frozen? ⟨b, 1, none⟩ = false :=
  ⟨by rw [cell_of_row w b 0 _ _ _ h]; rfl, by rw [cell_of_row w b 1 _ _ _ h]; rfl, frozen_of_row w b 0 _ _ h, frozen_of_row w b 1 _ _ h⟩
theorem blk3 {w : World} {b : Nat} {c0 c1 c2 : Value} {T : TypeId} (h : w.heap[b]? = some (.cells #[c0, c1, c2] T (0, 0))) : w.cell? ⟨b, 0, none⟩ = some c0 ∧ w.cell? ⟨b, 1, none⟩ = some c1 ∧ w.cell? ⟨b, 2, none⟩ = some c2 ∧ w.frozen? ⟨b, 0, none⟩ = false ∧ w.frozen? ⟨b, 1, none⟩ = false ∧ w.frozen? ⟨b, 2, none⟩ = false :=
  ⟨by rw [cell_of_row w b 0 _ _ _ h]; rfl, by rw [cell_of_row w b 1 _ _ _ h]; rfl, by rw [cell_of_row w b 2 _ _ _ h]; rfl, frozen_of_row w b 0 _ _ h, frozen_of_row w b 1 _ _ h, frozen_of_row w b 2 _ _ h⟩
theorem alloc_new (w : World) (o : Obj) : (w.alloc o).heap[w.heap.size]? = some o := heap_alloc_new w o
theorem alloc_below (w : World) (o : Obj) : Below w.heap.size w (w.alloc o) := (Below.refl _ _).alloc (Nat.le_refl _) _
theorem drew_below (w : World) : Below w.heap.size w w.drew := (Below.refl _ _).drew
end Ks
/- Texts in a slice. Plain. No program is in sight. -/
namespace Ks
open Go Go.RowKit
set_option linter.unusedVariables false
def strE : Enc ByteArray := ⟨1, fun s => [.string s], fun _ => rfl, fun x u hu => by simp only [List.mem_singleton] at hu; subst hu; rfl, by decide⟩
theorem Rd.str {w : World} {a : Option Addr} {n c : Nat} {l : List ByteArray} (h : Rd strE w (.slice a n c) l) (i : Nat) (hi : i < l.length) : ∃ b o, a = some ⟨b, o, none⟩ ∧ b < w.heap.size ∧ w.cell? ⟨b, o + i, none⟩ = some (.string l[i]) := by
  obtain ⟨b, o, h1, h2, h3⟩ := h.at i l[i] (List.getElem?_eq_getElem hi)
  refine ⟨b, o, h1, h2, ?_⟩
  have := h3 0 (.string l[i]) rfl
  simpa [strE] using this
/-- texts, one behind the other -/
def joinL (l : List ByteArray) : List UInt8 := l.flatMap fun s => s.data.toList
theorem joinL_take (l : List ByteArray) (k : Nat) (h : k < l.length) : joinL (l.take (k + 1)) = joinL (l.take k) ++ l[k].data.toList := by
  rw [joinL, List.take_succ_eq_append_getElem h, List.flatMap_append]; simp [joinL]
theorem joinL_append (a b : List ByteArray) : joinL (a ++ b) = joinL a ++ joinL b := by simp [joinL]
theorem joinL_le (l : List ByteArray) (k : Nat) : (joinL (l.take k)).length ≤ (joinL l).length := by
  have : joinL l = joinL (l.take k) ++ joinL (l.drop k) := by rw [← joinL_append, List.take_append_drop]
  rw [this, List.length_append]; omega
end Ks
/- A frontier: what stands of it, what a call turns. Plain. No program is in sight. -/
namespace Ks
open Go Go.RowKit
set_option linter.unusedVariables false
/-- a frontier of leaves -/
structure FrontAt (w : World) (TN : TypeId) (n : Nat) (v : Value) (l : List ByteArray) : Prop where
  blk : w.heap[n]? = some (.cells #[.bool true, .int .i64 (l.length : Int), v] TN (0, 0))
  row : Rd strE w v (peaksB l)
  ne : v.ownBlock ≠ some n
  wide : ∀ s ∈ l, s.size = 32
  few : l.length ≤ 1048576
theorem FrontAt.lt {w : World} {TN : TypeId} {n : Nat} {v : Value} {l : List ByteArray} (h : FrontAt w TN n v l) : n < w.heap.size := lt_of_block h.blk
theorem FrontAt.keep {w w' : World} {TN : TypeId} {n : Nat} {v : Value} {l : List ByteArray} (h : FrontAt w TN n v l) (hb : Below w.heap.size w w') : FrontAt w' TN n v l :=
  ⟨(hb.block n h.lt).trans h.blk, h.row.below hb, h.ne, h.wide, h.few⟩
/-- a frontier that is none, or that no call made -/
def FrontNo (w : World) (TN : TypeId) (v : Value) : Prop := v = .pointer none ∨ ∃ n, v = .pointer (some ⟨n, 0, none⟩) ∧ w.heap[n]? = some (.cells #[.bool false, .int .i64 0, .slice none 0 0] TN (0, 0))
theorem FrontNo.keep {w w' : World} {TN : TypeId} {v : Value} (h : FrontNo w TN v) (hb : Below w.heap.size w w') : FrontNo w' TN v := by
  rcases h with h | ⟨n, rfl, h⟩
  · exact Or.inl h
  · exact Or.inr ⟨n, rfl, (hb.block n (lt_of_block h)).trans h⟩
/-- only one block is turned -/
structure Solo (w w' : World) (n : Nat) : Prop where
  os : w'.os = w.os
  tape : w'.tape = w.tape
  output : w'.output = w.output
  size : w.heap.size ≤ w'.heap.size
  block : ∀ k, k < w.heap.size → k ≠ n → w'.heap[k]? = w.heap[k]?
theorem Solo.of_below {w w' : World} {n : Nat} (hb : Below w.heap.size w w') : Solo w w' n := ⟨hb.os, hb.tape, hb.output, hb.size, fun k hk _ => hb.block k hk⟩
theorem Solo.below {w w' : World} {n B : Nat} (h : Solo w w' n) (hn : B ≤ n) (hB : B ≤ w.heap.size) : Below B w w' := ⟨h.os, h.tape, h.output, h.size, fun k hk => h.block k (by omega) (by omega)⟩
theorem Solo.then {w w1 w2 : World} {n : Nat} (h : Solo w w1 n) (k : Solo w1 w2 n) : Solo w w2 n :=
  ⟨k.os.trans h.os, k.tape.trans h.tape, k.output.trans h.output, Nat.le_trans h.size k.size, fun j hj hne => (k.block j (Nat.lt_of_lt_of_le hj h.size) hne).trans (h.block j hj hne)⟩
theorem Solo.set (w : World) (n o : Nat) (u : Value) : Solo w (w.setCell ⟨n, o, none⟩ u) n :=
  ⟨((Below.refl 0 w).setCell (Nat.zero_le _) u).os, ((Below.refl 0 w).setCell (Nat.zero_le _) u).tape, ((Below.refl 0 w).setCell (Nat.zero_le _) u).output, by simp, fun k hk hne => set_ne u hne⟩
theorem Solo.rd {w w' : World} {n : Nat} {v : Value} {l : List ByteArray} (h : Solo w w' n) (hr : Rd strE w v l) (hne : v.ownBlock ≠ some n) : Rd strE w' v l := by
  obtain ⟨a, cap, rfl, hc, hn, hh⟩ := hr
  refine ⟨a, cap, rfl, hc, hn, fun i x hx => ?_⟩
  obtain ⟨b, o, rfl, hlt, hcs⟩ := hh i x hx
  have e := h.block b hlt (fun e => hne (by simp [Value.ownBlock, e]))
  exact ⟨b, o, rfl, Nat.lt_of_lt_of_le hlt h.size, fun j u hu => (World.cell?_of_block (a := ⟨b, o + i * strE.k + j, none⟩) e).trans (hcs j u hu)⟩
theorem set_at1 {w : World} {n : Nat} {c0 c1 c2 : Value} {T : TypeId} (u : Value) (h : w.heap[n]? = some (.cells #[c0, c1, c2] T (0, 0))) : (w.setCell ⟨n, 1, none⟩ u).heap[n]? = some (.cells #[c0, u, c2] T (0, 0)) := by
  simp [World.setCell, Array.getElem?_modify, h]
theorem set_at2 {w : World} {n : Nat} {c0 c1 c2 : Value} {T : TypeId} (u : Value) (h : w.heap[n]? = some (.cells #[c0, c1, c2] T (0, 0))) : (w.setCell ⟨n, 2, none⟩ u).heap[n]? = some (.cells #[c0, c1, u] T (0, 0)) := by
  simp [World.setCell, Array.getElem?_modify, h]
end Ks
/- A region that draws its order, whose operations read and whose callees make memory but turn none that was there: walked once, in the order of the text. (Over the library's theorem on quiet regions.) -/
namespace Ks
open Go Go.RowKit

/-- a world behind another one: so many draws, such blocks more -/
def After (w : World) (p : Regrown) : World := Sort.grow (redrawn w p.d) p.os

theorem after_below (w : World) (p : Regrown) : Below w.heap.size w (After w p) := below_regrown w p.d p.os
theorem after_of {w w' : World} (h : Below w.heap.size w w') : ∃ p, w' = After w p := regrown_of_below h
theorem after_cell {w : World} {a : Addr} {v : Value} (h : w.cell? a = some v) (p : Regrown) : (After w p).cell? a = some v := cell_regrown h p.d p.os
theorem wp_region_after {P : Program} {id : Nat} {Q : Exit → Act → World → Prop} {a : Act} {w : World} {l : List Oper} (hm : P.follows .mixedOrders = true) (hB : Region.lexB .any l.toArray = true)
    (h : wpQuiet P l.toArray (fun w' => ∃ p : Regrown, w' = After w p) (fun a' => ∀ w', (∃ p : Regrown, w' = After w p) → Q .normal a' w') l a) : (Code.region id l.toArray true).wp P Q a w :=
  wp_region_quiet_below hm hB h
theorem calls_after {P : Program} {f : FuncId} {args : Array Value} {w : World} {p : Regrown} {v : Value}
    (h : Calls P f args (After w p) fun e w' => e = .returned v ∧ Below (After w p).heap.size (After w p) w') : Calls P f args (After w p) fun e w'' => e = .returned v ∧ ∃ p : Regrown, w'' = After w p :=
  Calls.regrown_of h
theorem calls_after_same {P : Program} {f : FuncId} {args : Array Value} {w : World} {p : Regrown} {v : Value}
    (h : Calls P f args (After w p) fun e w' => e = .returned v ∧ After w p = w') : Calls P f args (After w p) fun e w'' => e = .returned v ∧ ∃ p : Regrown, w'' = After w p :=
  h.mono fun _ _ ⟨he, hw⟩ => ⟨he, p, hw.symm⟩
theorem after_frozen {w : World} {a : Addr} (h : a.block < w.heap.size) (p : Regrown) : (After w p).frozen? a = w.frozen? a := (after_below w p).frozen h

theorem RdI.after {w : World} {v : Value} {l : List Int} (h : RdI w v l) (p : Regrown) : RdI (After w p) v l := h.below (after_below w p)

end Ks
