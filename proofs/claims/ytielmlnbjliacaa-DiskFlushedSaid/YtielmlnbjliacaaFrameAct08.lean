/- Acts among a law's arguments: one by value, a row of them. -/
import Derived.Test.YtielmlnbjliacaaLawFew08
import Derived.Test.YtielmlnbjliacaaProg
import Derived.Test.YtielmlnbjliacaaFrame2
namespace Go.Proofs.Ytielmlnbjliacaa
open Go Go.RowKit Go.ChangeShapes Go.WideShapes Go.ChangeAt Ks
set_option linter.unusedVariables false

theorem cellsActC : Try.prog.cellsOf 33 = 6 := by kernel_rfl
theorem cellsInt8 : Try.prog.cellsOf 3 = 1 := by kernel_rfl
theorem cellsBool8 : Try.prog.cellsOf 4 = 1 := by kernel_rfl
theorem cellsString8 : Try.prog.cellsOf 9 = 1 := by kernel_rfl
theorem cellsInts8 : Try.prog.cellsOf 31 = 1 := by kernel_rfl
/-- an element of a row of numbers -/
def intE : Enc Int := ⟨1, fun x => [.int .i64 x], fun _ => rfl, fun x u hu => by simp only [List.mem_cons, List.not_mem_nil, or_false] at hu; rcases hu with rfl; rfl, by decide⟩
theorem int_of {H : Type} {enc : TypeId × Value → H} {W : World} (n : Nat) (cs : List Value) (d : DataW H × List MemPlace) (h : DataW.trod enc Try.prog W 0 (fun _ => true) true n 3 cs = some d) (hl : cs.length = intE.k) :
    ∃ x : Int, cs = intE.enc x ∧ (-9223372036854775808 ≤ x ∧ x ≤ 9223372036854775807) := by
  obtain ⟨e, h0, _, s0⟩ := DataW.trod_int Try.underlying3 h
  exact ⟨e, h0, i64_range s0⟩
theorem rdI_of {w : World} {v : Value} {l : List Int} (h : Rd intE w v l) (hr : ∀ x ∈ l, -9223372036854775808 ≤ x ∧ x ≤ 9223372036854775807) : RdI w v l := by
  obtain ⟨a, cap, rfl, hc, hn, hh⟩ := h
  refine ⟨a, cap, rfl, hc, fun i x hx => ?_⟩
  obtain ⟨b, o, rfl, hb, hcell⟩ := hh i x hx
  have h0 := hcell 0 _ rfl
  refine ⟨⟨b, o, rfl, hb, ?_⟩, hr x (List.mem_of_getElem? hx)⟩
  have e : o + i * intE.k + 0 = o + i := by show o + i * 1 + 0 = _; omega
  rw [e] at h0; exact h0

theorem actc_of {H : Type} {enc : TypeId × Value → H} {W : World} (n : Nat) (cs : List Value) (d : DataW H × List MemPlace) (h : DataW.trod enc Try.prog W 0 (fun _ => true) true n 33 cs = some d) (hl : cs.length = acE.k) :
    ∃ x : ActC, cs = acE.enc x ∧ x.2.2.1 ≤ 9223372036854775807 ∧ x.2.2.2.1.size ≤ maxLen ∧ ∃ l, RdI W (hdrV x.2.2.2.2.2) l ∧ l.length ≤ maxLen := by
  obtain ⟨xs, n, _, _, hl, hlen, hF⟩ := DataW.trod_struct Try.underlying33 h
  rw [cellsActC] at hl
  match cs, hl, xs, hlen with
  | [c0, c1, c2, c3, c4, c5], _, [x0, x1, x2, x3, x4, x5], _ =>
    have t0 := hF 0 _ rfl
    have t1 := hF 1 _ rfl
    have t2 := hF 2 _ rfl
    have t3 := hF 3 _ rfl
    have t4 := hF 4 _ rfl
    have t5 := hF 5 _ rfl
    simp [cellsInt8, cellsBool8, cellsString8, cellsInts8] at t0 t1 t2 t3 t4 t5
    obtain ⟨e, h0, _, s0⟩ := DataW.trod_int Try.underlying3 t0
    obtain ⟨f, h1, _, s1⟩ := DataW.trod_int Try.underlying3 t1
    obtain ⟨g, h2, _, s2⟩ := DataW.trod_int Try.underlying3 t2
    obtain ⟨t, h3, _, s3⟩ := DataW.trod_string Try.underlying9 t3
    obtain ⟨b, h4, _⟩ := DataW.trod_bool Try.underlying4 t4
    obtain ⟨v, l, h5, _, hr, hm, hG⟩ := rd_opens (E := intE) Try.underlying31 cellsInt8 _ int_of t5
    simp at h0 h1 h2 h3 h4 h5
    subst h0 h1 h2 h3 h4 h5
    obtain ⟨a, c, rfl, _⟩ := hr.shape
    exact ⟨(e, f, g, t, b, a, l.length, c), rfl, (i64_range s2).2, s3, l, rdI_of hr hG, hm⟩

/-- what is known of an act among the arguments -/
def ActG (W : World) (x : ActC) : Prop := x.2.2.1 ≤ 9223372036854775807 ∧ x.2.2.2.1.size ≤ maxLen ∧ ∃ l, RdI W (hdrV x.2.2.2.2.2) l ∧ l.length ≤ maxLen
set_option maxRecDepth 100000 in
theorem open_act8 {H : Type} {enc : TypeId × Value → H} {W : World} {base : Nat} {v : Value} {d : DataW H} {ps : List MemPlace}
    (hok : Value.okWide Try.prog W .any base 33 v) (h : DataW.Trod enc Try.prog W 0 (fun _ => true) true 33 v d ps) :
    ∃ (kd ia ib : Int) (t : ByteArray) (raw : Bool) (ka : Option Addr) (kn kc : Nat), v = .agg #[.int .i64 kd, .int .i64 ia, .int .i64 ib, .string t, .bool raw, .slice ka kn kc] ∧ ActG W (kd, ia, ib, t, raw, ka, kn, kc) := by
  obtain ⟨fuel, hf⟩ := h
  have hv : ∃ cs, v = .agg cs := by
    have h0 := hok
    unfold Value.okWide at h0
    rw [Try.underlying33] at h0
    obtain ⟨cs, h1, _⟩ := h0
    exact ⟨cs, h1⟩
  obtain ⟨⟨cs⟩, rfl⟩ := hv
  obtain ⟨_, _, _, _, hl, _, _⟩ := DataW.trod_struct Try.underlying33 hf
  rw [cellsActC] at hl
  simp only [Value.cells] at hl hf
  obtain ⟨⟨kd, ia, ib, t, raw, ka, kn, kc⟩, e, hG⟩ := actc_of _ cs _ hf hl
  subst e
  exact ⟨kd, ia, ib, t, raw, ka, kn, kc, rfl, hG⟩
theorem open_acts8 {H : Type} {enc : TypeId × Value → H} {W : World} {base : Nat} {v : Value} {d : DataW H} {ps : List MemPlace}
    (hok : Value.okWide Try.prog W .any base 22 v) (h : DataW.Trod enc Try.prog W 0 (fun _ => true) true 22 v d ps) : ∃ l, Rd acE W v l ∧ l.length ≤ maxLen ∧ ∀ x ∈ l, ActG W x :=
  rd_open (E := acE) Try.underlying22 cellsActC _ actc_of hok h

theorem cellsPut8 : Try.prog.cellsOf 75 = 2 := by kernel_rfl
theorem cellsStrs8 : Try.prog.cellsOf 37 = 1 := by kernel_rfl
theorem cellsPuts8 : Try.prog.cellsOf 38 = 1 := by kernel_rfl
theorem cellsImage8 : Try.prog.cellsOf 40 = 2 := by kernel_rfl
theorem str_of8 {H : Type} {enc : TypeId × Value → H} {W : World} (n : Nat) (cs : List Value) (d : DataW H × List MemPlace) (h : DataW.trod enc Try.prog W 0 (fun _ => true) true n 9 cs = some d) (hl : cs.length = strE.k) :
    ∃ x : ByteArray, cs = strE.enc x ∧ x.size ≤ maxLen := by
  obtain ⟨e, h0, _, s0⟩ := DataW.trod_string Try.underlying9 h
  exact ⟨e, h0, s0⟩
theorem put_of8 {H : Type} {enc : TypeId × Value → H} {W : World} (n : Nat) (cs : List Value) (d : DataW H × List MemPlace) (h : DataW.trod enc Try.prog W 0 (fun _ => true) true n 75 cs = some d) (hl : cs.length = pwE.k) :
    ∃ x : PutT, cs = pwE.enc x ∧ x.2.size ≤ maxLen := by
  obtain ⟨xs, n, _, _, hl, hlen, hF⟩ := DataW.trod_struct Try.underlying75 h
  rw [cellsPut8] at hl
  match cs, hl, xs, hlen with
  | [c0, c1], _, [x0, x1], _ =>
    have t0 := hF 0 _ rfl
    have t1 := hF 1 _ rfl
    simp [cellsInt8, cellsString8] at t0 t1
    obtain ⟨e, h0, _, s0⟩ := DataW.trod_int Try.underlying3 t0
    obtain ⟨t, h1, _, s1⟩ := DataW.trod_string Try.underlying9 t1
    simp at h0 h1
    subst h0 h1
    exact ⟨(e, t), rfl, s1⟩
set_option maxRecDepth 100000 in
theorem open_image8 {H : Type} {enc : TypeId × Value → H} {W : World} {base : Nat} {v : Value} {d : DataW H} {ps : List MemPlace}
    (hok : Value.okWide Try.prog W .any base 40 v) (h : DataW.Trod enc Try.prog W 0 (fun _ => true) true 40 v d ps) :
    ∃ va vd B C, v = .agg #[va, vd] ∧ Rd strE W va B ∧ Rd pwE W vd C ∧ B.length ≤ maxLen ∧ C.length ≤ maxLen := by
  obtain ⟨fuel, hf⟩ := h
  have hv : ∃ cs, v = .agg cs := by
    have h0 := hok
    unfold Value.okWide at h0
    rw [Try.underlying40] at h0
    obtain ⟨cs, h1, _⟩ := h0
    exact ⟨cs, h1⟩
  obtain ⟨⟨cs⟩, rfl⟩ := hv
  obtain ⟨xs, n, _, _, hl, hlen, hF⟩ := DataW.trod_struct Try.underlying40 hf
  rw [cellsImage8] at hl
  simp only [Value.cells] at hl hF
  match cs, hl, xs, hlen with
  | [c0, c1], _, [x0, x1], _ =>
    have t0 := hF 0 _ rfl
    have t1 := hF 1 _ rfl
    simp [cellsStrs8, cellsPuts8] at t0 t1
    obtain ⟨va, B, h0, _, r0, m0, _⟩ := rd_opens (E := strE) Try.underlying37 cellsString8 _ str_of8 t0
    obtain ⟨vd, C, h1, _, r1, m1, _⟩ := rd_opens (E := pwE) Try.underlying38 cellsPut8 _ put_of8 t1
    simp at h0 h1
    subst h0 h1
    exact ⟨_, _, B, C, rfl, r0, r1, m0, m1⟩
end Go.Proofs.Ytielmlnbjliacaa
