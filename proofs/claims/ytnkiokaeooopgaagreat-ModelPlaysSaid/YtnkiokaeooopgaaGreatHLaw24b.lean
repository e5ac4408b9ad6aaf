/- A model behind calls; the law ModelCloses: what its walk gives. -/
import Derived.Test.YtnkiokaeooopgaaGreatM14
import Derived.Test.YtnkiokaeooopgaaGreatM15
set_option maxRecDepth 100000
namespace Go.Proofs.YtnkiokaeooopgaaGreat
open Go.RowKit Ks Go.Maps
set_option linter.unusedVariables false
set_option linter.unusedSimpArgs false
/-- a model of the walk's own, that has m -/
structure Live (B : Nat) (w0 w : World) (n cc bn c mu mh mg : Nat) (m : ModT) : Prop where
  b : Below B w0 w
  hB : B ≤ w.heap.size
  m : ∃ rv vv, ModAt w n cc bn c mu mh mg rv vv m ∧ ∀ k, FM n cc bn c mu mh mg rv vv k → B ≤ k
theorem Live.on {B : Nat} {w0 w w' : World} {n cc bn c mu mh mg : Nat} {m : ModT} (h : Live B w0 w n cc bn c mu mh mg m) (hb : Below w.heap.size w w') : Live B w0 w' n cc bn c mu mh mg m := by
  obtain ⟨rv, vv, h1, h2⟩ := h.m
  exact ⟨h.b.trans (hb.mono h.hB), Nat.le_trans h.hB hb.size, rv, vv, h1.below hb, h2⟩
theorem Live.does {B : Nat} {w0 w : World} {n cc bn c mu mh mg : Nat} {m : ModT} (h : Live B w0 w n cc bn c mu mh mg m) (h7 : Seven n cc bn c mu mh mg) (hi : ModI m) (cl : CallT) (ka : Option Addr) (kn kc : Nat) (hce : -9223372036854775808 ≤ cl.epoch ∧ cl.epoch ≤ 9223372036854775807) (hna : cl.name.size ≤ maxLen) :
    Calls Tryz.prog 8 #[.pointer (some ⟨n, 0, none⟩), callV cl ka kn kc] w fun e w' => e = .returned (.agg (ansC (doA m cl))) ∧ Live B w0 w' n cc bn c mu mh mg (doM (zerosS 32) m cl) ∧ (∀ k, k < B → w'.heap[k]? = w.heap[k]?) ∧ w.heap.size ≤ w'.heap.size := by
  obtain ⟨rv, vv, h1, h2⟩ := h.m
  refine (mdo_any cl ka kn kc w h1 h7 hi hce hna).mono ?_
  rintro e w' ⟨he, rv', vv', h3, h4⟩
  have hb := h4.below h2 h.hB
  refine ⟨he, ⟨h.b.trans hb, Nat.le_trans h.hB h4.size, rv', vv', h3, fun k q => ?_⟩, fun k q => hb.block k q, h4.size⟩
  rcases h4.foot k q with q | q
  · exact h2 k q
  · exact Nat.le_trans h.hB q
theorem Live.epoch {B : Nat} {w0 w : World} {n cc bn c mu mh mg : Nat} {m : ModT} (h : Live B w0 w n cc bn c mu mh mg m) : Calls Tryz.prog 37 #[.pointer (some ⟨n, 0, none⟩)] w fun e w' => e = .returned (.int .i64 m.book.epoch) ∧ w' = w := by
  obtain ⟨rv, vv, h1, -⟩ := h.m
  refine calls_by fun R HR => ?_
  have HT := Lib.hid (mthere_yes w h1)
  have HE := Lib.hid (bepoch_any w h1.book)
  obtain ⟨⟨z0, z1, z2, z3, z4, z5, z6, z7⟩, -⟩ := blkR h1.blk
  clear h h1
  go_enter Tryz.func37, Tryz.ntmps37
  go_wp2_with fail
  refine HT.out.mono ?_
  rintro en y9 ⟨rfl, hw⟩
  rw [hw]
  clear hw y9
  go_wp2_with fail
  refine HE.out.mono ?_
  rintro en y9 ⟨rfl, hw⟩
  rw [hw]
  clear hw y9
  go_wp2
  exact HR.out _ _ ⟨rfl, rfl⟩
/-- what calls make of a new model -/
def playM (g : GeoD) (l : List CallK) : ModT := (l.map CallK.c).foldl (doM (zerosS 32)) (newM g)
theorem playM_take (g : GeoD) (l : List CallK) (k : Nat) (x : CallK) (h : l[k]? = some x) : playM g (l.take (k + 1)) = doM (zerosS 32) (playM g (l.take k)) x.c := by
  unfold playM
  rw [List.take_add_one, h, List.map_append, List.foldl_append]; rfl
theorem zeros32 : (zerosS 32).size = 32 := by rfl
theorem playM_ok {g : GeoD} (h : geoOk g.blocks g.lbas g.first = true) (l : List CallK) : ModI (playM g l) := dos_ok zeros32 _ (newM_ok h)
end Go.Proofs.YtnkiokaeooopgaaGreat
