/- A law's acts among its arguments. -/
import Derived.Test.YtpdnjhofmngfdaaOpen
import Derived.Test.YtpdnjhofmngfdaaFrameNet
import Derived.Test.YtpdnjhofmngfdaaNetActs
import Derived.Test.YtpdnjhofmngfdaaNetPlay
namespace Go.Proofs.Ytpdnjhofmngfdaa
open Go Go.RowKit Go.ChangeShapes Go.WideShapes Go.ChangeAt Ks
set_option linter.unusedVariables false

theorem cellsAct : Try.prog.cellsOf 31 = 3 := by kernel_rfl
theorem cellsLets : Try.prog.cellsOf 29 = 1 := by kernel_rfl

theorem letter_of {H : Type} {enc : TypeId × Value → H} {W : World} (n : Nat) (cs : List Value) (d : DataW H × List MemPlace) (h : DataW.trod enc Try.prog W 0 (fun _ => true) true n 24 cs = some d) (hl : cs.length = letE.k) :
    ∃ x : Let, cs = letE.enc x ∧ (x.2.size ≤ maxLen ∧ -9223372036854775808 ≤ x.1 ∧ x.1 ≤ 9223372036854775807) := by
  obtain ⟨xs, n, _, _, hl, hlen, hF⟩ := DataW.trod_struct Try.underlying24 h
  rw [cellsLetter] at hl
  match cs, hl, xs, hlen with
  | [c0, c1], _, [x0, x1], _ =>
    have t0 := hF 0 _ rfl
    have t1 := hF 1 _ rfl
    simp [cellsInt, cellsString] at t0 t1
    obtain ⟨e, h0, _, s0⟩ := DataW.trod_int Try.underlying3 t0
    obtain ⟨t, h1, _, s1⟩ := DataW.trod_string Try.underlying9 t1
    simp at h0 h1
    subst h0 h1
    exact ⟨(e, t), rfl, s1, i64_range s0⟩

def actE : Enc (Int × Int × Hdr) := ⟨3, fun x => [.int .i64 x.1, .int .i64 x.2.1, hdrV x.2.2], fun _ => rfl, fun x u hu => by simp only [List.mem_cons, List.not_mem_nil, or_false] at hu; rcases hu with rfl | rfl | rfl <;> rfl, by decide⟩

theorem act_of {H : Type} {enc : TypeId × Value → H} {W : World} (n : Nat) (cs : List Value) (d : DataW H × List MemPlace) (h : DataW.trod enc Try.prog W 0 (fun _ => true) true n 31 cs = some d) (hl : cs.length = actE.k) :
    ∃ x, cs = actE.enc x ∧ ∃ l, RdL W (hdrV x.2.2) l ∧ l.length ≤ maxLen ∧ ∀ y ∈ l, y.2.size ≤ maxLen := by
  obtain ⟨xs, n, _, _, hl, hlen, hF⟩ := DataW.trod_struct Try.underlying31 h
  rw [cellsAct] at hl
  match cs, hl, xs, hlen with
  | [c0, c1, c2], _, [x0, x1, x2], _ =>
    have t0 := hF 0 _ rfl
    have t1 := hF 1 _ rfl
    have t2 := hF 2 _ rfl
    simp [cellsInt, cellsLets] at t0 t1 t2
    obtain ⟨e, h0, _, s0⟩ := DataW.trod_int Try.underlying3 t0
    obtain ⟨t, h1, _, s1⟩ := DataW.trod_int Try.underlying3 t1
    obtain ⟨v, l, h2, _, hr, hm, hG⟩ := rd_opens (E := letE) Try.underlying29 cellsLetter (fun x => x.2.size ≤ maxLen ∧ -9223372036854775808 ≤ x.1 ∧ x.1 ≤ 9223372036854775807) letter_of t2
    simp at h0 h1 h2
    subst h0 h1 h2
    obtain ⟨a, c, rfl, _⟩ := hr.shape
    exact ⟨(e, t, a, l.length, c), rfl, l, rdL_of hr, hm, fun y hy => (hG y hy).1⟩

theorem open_acts {H : Type} {enc : TypeId × Value → H} {W : World} {base : Nat} {v : Value} {d : DataW H} {ps : List MemPlace}
    (hok : Value.okWide Try.prog W .any base 22 v) (h : DataW.Trod enc Try.prog W 0 (fun _ => true) true 22 v d ps) : ∃ l, RdA W v l ∧ l.length ≤ maxLen := by
  obtain ⟨l, h1, h2, h3⟩ := rd_open (E := actE) Try.underlying22 cellsAct _ act_of hok h
  obtain ⟨l', h4, h5⟩ := choose_list (p := fun (x : Int × Int × Hdr) (y : List Let) => RdL W (hdrV x.2.2) y ∧ y.length ≤ maxLen ∧ ∀ z ∈ y, z.2.size ≤ maxLen) l h3
  obtain ⟨a, cap, rfl, hc, hn, hh⟩ := h1
  refine ⟨(l.zip l').map fun p => ⟨p.1.1, p.1.2.1, hdrV p.1.2.2, p.2⟩, ⟨a, cap, by simp [h4], fun i x hx => ?_⟩, by simp [h4, h2]⟩
  rw [List.getElem?_map] at hx
  obtain ⟨⟨p, q⟩, hz, rfl⟩ := Option.map_eq_some_iff.1 hx
  rw [List.getElem?_zip_eq_some] at hz
  obtain ⟨b, o, rfl, hb, hcell⟩ := hh i p hz.1
  obtain ⟨g1, g2, g3⟩ := h5 i p q hz.1 hz.2
  exact ⟨b, o, rfl, hb, hcell 0 _ rfl, hcell 1 _ rfl, hcell 2 _ rfl, g1, g2, g3⟩

end Go.Proofs.Ytpdnjhofmngfdaa
