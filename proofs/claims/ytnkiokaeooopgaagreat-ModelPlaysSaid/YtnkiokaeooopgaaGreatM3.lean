/- Texts that the claim rests on, part 3: ModTell, ModRef, RecLow, StepCall, Moved, MovedMore, MovedStore. -/
import Derived.Test.YtnkiokaeooopgaaGreatProg
import Derived.BigQuiet
import Derived.Test.YtnkiokaeooopgaaGreatM2
/- What a volume as a plain thing answers to any call, and what stays true of it. Plain. No program is in sight. -/
namespace Ks
open Go Go.RowKit
set_option linter.unusedVariables false
def hitB (v : VerD) (lba fr up : Int) : Bool := decide (v.1 = lba ∧ fr ≤ v.2.1 ∧ v.2.1 ≤ up)
def betterV (v : VerD) (b : Option VerD) : Option VerD := match b with
  | none => some v
  | some u => if u.2.1 < v.2.1 then some v else some u
def stepV (lba fr up : Int) (v : VerD) (b : Option VerD) : Option VerD := if hitB v lba fr up then betterV v b else b
/-- a place's newest version, as it is found from behind -/
def newestN (l : List VerD) (lba fr up : Int) : Option VerD := l.foldr (stepV lba fr up) none
theorem newest_snoc (l : List VerD) (v : VerD) (lba fr up : Int) : newestN (l ++ [v]) lba fr up = l.foldr (stepV lba fr up) (stepV lba fr up v none) := by simp [newestN]
theorem newest_miss (l : List VerD) (v : VerD) (lba fr up : Int) (h : hitB v lba fr up = false) : newestN (l ++ [v]) lba fr up = newestN l lba fr up := by
  rw [newest_snoc, stepV, h]; rfl
theorem foldr_mem (lba fr up : Int) (l : List VerD) : ∀ (b : Option VerD) (v : VerD), l.foldr (stepV lba fr up) b = some v → b = some v ∨ (v ∈ l ∧ hitB v lba fr up = true) := by
  induction l with
  | nil => intro b v h; exact Or.inl h
  | cons x l ih =>
    intro b v h
    rw [List.foldr_cons, stepV] at h
    have k : l.foldr (stepV lba fr up) b = some v → b = some v ∨ (v ∈ x :: l ∧ hitB v lba fr up = true) := fun q => by
      rcases ih b v q with q | q
      · exact Or.inl q
      · exact Or.inr ⟨List.mem_cons_of_mem _ q.1, q.2⟩
    split at h
    · rename_i hx
      unfold betterV at h
      split at h
      · cases h; exact Or.inr ⟨List.mem_cons_self, hx⟩
      · rename_i u hu
        split at h
        · cases h; exact Or.inr ⟨List.mem_cons_self, hx⟩
        · cases h; exact k hu
    · exact k h
theorem newest_mem {l : List VerD} {lba fr up : Int} {v : VerD} (h : newestN l lba fr up = some v) : v ∈ l ∧ hitB v lba fr up = true := by
  rcases foldr_mem lba fr up l none v h with q | q
  · cases q
  · exact q
def readA (m : ModT) (lba ep : Int) : AnsT :=
  if placeE m lba ≠ 0 then errA (placeE m lba) else if ep < m.geo.first ∨ m.book.epoch < ep then errA 7 else
  match newestN m.vers lba m.geo.first ep with
  | none => errA 7
  | some v => if goneB m.book v.2.1 then errA 13 else ⟨0, v.2.2, (0, 0, 0, 0, 0, 0)⟩
def statA (m : ModT) : AnsT := ⟨0, ⟨#[]⟩, (m.book.epoch, m.now, roomM m, m.recs.length, placesN m m.geo.first, m.book.holds.length)⟩
def tickE (m : ModT) (t : Int) : Int := if t < 0 ∨ 1099511627776 < t then 2 else if t < m.now then 11 else 0
def tickM (m : ModT) (t : Int) : ModT := if tickE m t = 0 then { m with now := t } else m
def closedE (m : ModT) (ep : Int) : Int := if ep < m.geo.first ∨ m.book.epoch < ep then 7 else if ep = m.book.epoch then 8 else 0
def meansE (m : ModT) (c : CallT) : Int :=
  if (c.kind = 7 ∨ c.kind = 8) ∧ nameB c.name = false then 2 else if c.kind ≠ 8 ∧ closedE m c.epoch ≠ 0 then closedE m c.epoch
  else if c.kind = 6 ∧ (c.time < 0 ∨ 1099511627776 < c.time) then 2 else 0
def meansR (m : ModT) (c : CallT) : RecT :=
  if c.kind = 6 then ⟨2, m.book.epoch, m.now, 0, c.epoch, c.time, ⟨#[]⟩, ⟨#[]⟩⟩
  else if c.kind = 7 then ⟨3, m.book.epoch, m.now, 0, c.epoch, 0, ⟨#[]⟩, c.name⟩
  else if c.kind = 8 then ⟨4, m.book.epoch, m.now, 0, 0, 0, ⟨#[]⟩, c.name⟩
  else ⟨5, m.book.epoch, m.now, 0, c.epoch, tillN m.book c.epoch, ⟨#[]⟩, ⟨#[]⟩⟩
def sealE (m : ModT) (c : CallT) : Int :=
  if meansE m c ≠ 0 then meansE m c else if mayE m.book (meansR m c) ≠ 0 then mayE m.book (meansR m c) else if roomM m = 0 then 5 else 0
def sealM (m : ModT) (c : CallT) : ModT := if sealE m c = 0 then applyM m (meansR m c) else m
/-- what a call is answered -/
def doA (m : ModT) (c : CallT) : AnsT :=
  if c.kind = 1 then errA (writeE m c) else if c.kind = 2 then readA m c.lba m.book.epoch else if c.kind = 3 then readA m c.lba c.epoch
  else if c.kind = 4 then errA 0 else if c.kind = 5 then errA (closeE m) else if 6 ≤ c.kind ∧ c.kind ≤ 9 then errA (sealE m c)
  else if c.kind = 10 then statA m else if c.kind = 11 then errA (tickE m c.time) else errA 2
/-- what a call makes of a model; z: noughts -/
def doM (z : ByteArray) (m : ModT) (c : CallT) : ModT :=
  if c.kind = 1 then writeM m c else if c.kind = 5 then closeM m z else if 6 ≤ c.kind ∧ c.kind ≤ 9 then sealM m c
  else if c.kind = 11 then tickM m c.time else m
/-! what stays true -/
structure ModI (m : ModT) : Prop where
  geo : geoOk m.geo.blocks m.geo.lbas m.geo.first = true
  used : 0 ≤ m.used ∧ m.used ≤ geoData m.geo
  vlen : (m.vers.length : Int) ≤ m.used
  rlen : (m.recs.length : Int) ≤ m.used
  hlen : (m.book.holds.length : Int) ≤ m.used
  now : 0 ≤ m.now ∧ m.now ≤ 1099511627776
  bnow : 0 ≤ m.book.now ∧ m.book.now ≤ m.now
  epoch : m.geo.first ≤ m.book.epoch ∧ m.book.epoch ≤ 4294967295
  first : m.book.first = m.geo.first
  vers : ∀ v ∈ m.vers, (0 ≤ v.1 ∧ v.1 < m.geo.lbas) ∧ m.geo.first ≤ v.2.1 ∧ v.2.1 ≤ m.book.epoch
theorem ModI.data {m : ModT} (h : ModI m) : geoData m.geo = m.geo.blocks - 4 ∧ 8 ≤ m.geo.blocks ∧ m.geo.blocks ≤ 1024 ∧ 1 ≤ m.geo.lbas ∧ m.geo.lbas ≤ 4096 ∧ 0 ≤ m.geo.first ∧ m.geo.first ≤ 4294967295 := by
  have h1 := h.geo
  exact ⟨(geo_yes h1).2, geo_ok.1 h1⟩
theorem newM_ok {g : GeoD} (h : geoOk g.blocks g.lbas g.first = true) : ModI (newM g) := by
  have h1 := geo_ok.1 h
  have h2 : geoData g = g.blocks - 4 := (geo_yes h).2
  refine ⟨h, ⟨Int.le_refl _, ?_⟩, ?_, ?_, ?_, ⟨Int.le_refl _, by show (0 : Int) ≤ _; omega⟩, ⟨Int.le_refl _, Int.le_refl _⟩, ⟨Int.le_refl _, h1.2.2.2.2.2⟩, rfl, fun v hv => by cases hv⟩
  · show (0 : Int) ≤ geoData g; omega
  all_goals exact Int.le_refl _
theorem hold_del (l : List (ByteArray × Int)) (s : ByteArray) : (delM l s).length ≤ l.length := by
  induction l with
  | nil => simp [delM]
  | cons p l ih => rw [delM]; split <;> simp <;> omega
theorem put_holds (b : BookT) (r : RecT) : (putB b r).holds.length ≤ b.holds.length + 1 := by
  unfold putB
  repeat' split
  · exact Nat.le_succ _
  · exact Nat.le_succ _
  · exact length_put_le _ _ _
  · exact Nat.le_succ_of_le (hold_del _ _)
  · exact Nat.le_succ _
theorem put_first (b : BookT) (r : RecT) : (putB b r).first = b.first := by unfold putB; (repeat' split) <;> rfl
theorem put_now (b : BookT) (r : RecT) : (putB b r).now = r.time := by unfold putB; (repeat' split) <;> rfl
theorem put_epoch (b : BookT) (r : RecT) : (putB b r).epoch = if r.kind = 1 then b.epoch + 1 else b.epoch := by unfold putB; (repeat' split) <;> rfl
theorem room_some {m : ModT} (h : ModI m) (hr : roomM m ≠ 0) : m.used + 1 ≤ geoData m.geo := by
  have h1 := h.data
  have h2 := h.used
  unfold roomM geoRoom at hr
  rw [if_neg (by omega)] at hr
  omega
theorem room_none {m : ModT} (h : ModI m) (hr : geoData m.geo ≤ m.used) : roomM m = 0 := by
  have h1 := h.data
  have h2 := h.used
  unfold roomM geoRoom
  rw [if_neg (by omega)]
  omega
theorem apply_ok {m : ModT} {r : RecT} (h : ModI m) (hm : mayE m.book r = 0) (hu : m.used + 1 ≤ geoData m.geo) (ht : r.time = m.now) (he : r.kind = 1 → m.book.epoch < 4294967295) : ModI (applyM m r) := by
  have e1 : (applyM m r).book = putB m.book r := by show applyB m.book r = _; rw [applyB, if_pos hm]
  have h3 := put_epoch m.book r
  have h4 := put_holds m.book r
  have h5 := h.used
  have h6 := h.epoch
  have hep : m.book.epoch ≤ (putB m.book r).epoch ∧ (putB m.book r).epoch ≤ 4294967295 := by
    rw [h3]
    split
    · rename_i k; have := he k; omega
    · omega
  refine ⟨h.geo, ⟨by show 0 ≤ m.used + 1; omega, hu⟩, ?_, ?_, ?_, h.now, ?_, ?_, ?_, ?_⟩
  · show (m.vers.length : Int) ≤ m.used + 1; have := h.vlen; omega
  · show ((m.recs ++ [r]).length : Int) ≤ m.used + 1; have := h.rlen; simp; omega
  · rw [e1]; show _ ≤ m.used + 1; have := h.hlen; omega
  · rw [e1, put_now, ht]; exact ⟨h.now.1, Int.le_refl _⟩
  · rw [e1]; exact ⟨Int.le_trans h6.1 hep.1, hep.2⟩
  · rw [e1, put_first]; exact h.first
  · intro v hv
    have h7 := h.vers v hv
    rw [e1]
    exact ⟨h7.1, h7.2.1, Int.le_trans h7.2.2 hep.1⟩
theorem write_ok {m : ModT} {c : CallT} (h : ModI m) : ModI (writeM m c) := by
  unfold writeM
  split
  · rename_i hw
    unfold writeE at hw
    split at hw
    · rename_i hp; exact absurd hw hp
    · rename_i hp
      split at hw
      · cases hw
      · split at hw
        · cases hw
        · rename_i hr
          have h1 := room_some h hr
          have h2 : ¬ (c.lba < 0 ∨ m.geo.lbas ≤ c.lba) := fun q => by rw [placeE, if_pos q] at hp; exact hp (by decide)
          have h5 := h.used
          refine ⟨h.geo, ⟨by show 0 ≤ m.used + 1; omega, h1⟩, ?_, ?_, ?_, h.now, h.bnow, h.epoch, h.first, ?_⟩
          · show ((m.vers ++ [_]).length : Int) ≤ m.used + 1; have := h.vlen; simp; omega
          · show (m.recs.length : Int) ≤ m.used + 1; have := h.rlen; omega
          · show (m.book.holds.length : Int) ≤ m.used + 1; have := h.hlen; omega
          · intro v hv
            rcases List.mem_append.1 hv with q | q
            · exact h.vers v q
            · obtain rfl := List.mem_singleton.1 q
              exact ⟨by show 0 ≤ c.lba ∧ c.lba < m.geo.lbas; omega, h.epoch.1, Int.le_refl _⟩
  · exact h
theorem places_le (m : ModT) (ep : Int) : placesN m ep ≤ m.vers.length := placesL_len _ _
theorem close_may {m : ModT} {z : ByteArray} (h : ModI m) (hz : z.size = 32) (he : m.book.epoch ≤ 4294967295) : mayE m.book (closeR m z) = 0 := by
  have h1 := h.data
  have h2 := h.used
  have h3 := h.vlen
  have h4 := places_le m m.book.epoch
  have h5 := h.now
  have h6 := h.bnow
  have h7 := h.epoch
  have hc : chkB (closeR m z) = true := by
    unfold chkB
    simp only [Bool.and_eq_true]
    refine ⟨⟨⟨?_, ?_⟩, ?_⟩, ?_⟩
    · show (withB (placesN m m.book.epoch : Int) 4096 && decide (z.size = 32)) = true
      simp only [withB, Bool.and_eq_true, decide_eq_true_eq]
      omega
    · rfl
    · exact decide_eq_true (show 0 ≤ m.book.epoch ∧ m.book.epoch ≤ 4294967295 by omega)
    · exact decide_eq_true (show 0 ≤ m.now ∧ m.now ≤ 1099511627776 by omega)
  unfold mayE
  rw [if_neg (by rw [hc]; decide), if_neg (fun q => q.elim (fun q => q rfl) (fun q => by have : m.now < m.book.now := q; omega))]
  rfl
theorem close_ok {m : ModT} {z : ByteArray} (h : ModI m) (hz : z.size = 32) : ModI (closeM m z) := by
  unfold closeM
  split
  · rename_i hc
    unfold closeE at hc
    split at hc
    · cases hc
    · rename_i hn
      exact apply_ok h (close_may h hz h.epoch.2) (by omega) rfl (fun _ => by omega)
  · exact h
theorem means_time (m : ModT) (c : CallT) : (meansR m c).time = m.now ∧ (meansR m c).kind ≠ 1 := by
  unfold meansR
  split
  · exact ⟨rfl, show (2 : Int) ≠ 1 by decide⟩
  · split
    · exact ⟨rfl, show (3 : Int) ≠ 1 by decide⟩
    · split
      · exact ⟨rfl, show (4 : Int) ≠ 1 by decide⟩
      · exact ⟨rfl, show (5 : Int) ≠ 1 by decide⟩
theorem seal_zero {m : ModT} {c : CallT} (h : sealE m c = 0) : meansE m c = 0 ∧ mayE m.book (meansR m c) = 0 ∧ roomM m ≠ 0 := by
  unfold sealE at h
  split at h
  · rename_i q; exact absurd h q
  · rename_i q
    split at h
    · rename_i q2; exact absurd h q2
    · rename_i q2
      split at h
      · cases h
      · rename_i q3; exact ⟨Classical.byContradiction q, Classical.byContradiction q2, q3⟩
theorem seal_ok {m : ModT} {c : CallT} (h : ModI m) : ModI (sealM m c) := by
  unfold sealM
  split
  · rename_i hs
    obtain ⟨-, h1, h2⟩ := seal_zero hs
    have h3 := means_time m c
    exact apply_ok h h1 (room_some h h2) h3.1 (fun k => absurd k h3.2)
  · exact h
theorem tick_ok {m : ModT} {t : Int} (h : ModI m) : ModI (tickM m t) := by
  unfold tickM
  split
  · rename_i hs
    unfold tickE at hs
    split at hs
    · cases hs
    · rename_i h1
      split at hs
      · cases hs
      · rename_i h2
        have := h.now
        have := h.bnow
        exact ⟨h.geo, h.used, h.vlen, h.rlen, h.hlen, by show 0 ≤ t ∧ t ≤ _; omega, by show 0 ≤ m.book.now ∧ m.book.now ≤ t; omega, h.epoch, h.first, h.vers⟩
  · exact h
theorem do_ok {z : ByteArray} {m : ModT} (c : CallT) (h : ModI m) (hz : z.size = 32) : ModI (doM z m c) := by
  unfold doM
  split
  · exact write_ok h
  · split
    · exact close_ok h hz
    · split
      · exact seal_ok h
      · split
        · exact tick_ok h
        · exact h
theorem dos_ok {z : ByteArray} (hz : z.size = 32) (l : List CallT) : ∀ {m : ModT}, ModI m → ModI (l.foldl (doM z) m) := by
  induction l with
  | nil => intro m h; exact h
  | cons c l ih => intro m h; exact ih (do_ok c h hz)
/-! what a call leaves of what was written of closed epochs -/
/-- what a model becomes: its epochs, what was written of closed ones, what was purged -/
structure Later (m m' : ModT) : Prop where
  geo : m'.geo = m.geo
  epoch : m.book.epoch ≤ m'.book.epoch
  gone : ∀ e, goneB m.book e = true → goneB m'.book e = true
  vers : ∃ t, m'.vers = m.vers ++ t ∧ ∀ v ∈ t, m.book.epoch ≤ v.2.1
theorem Later.refl (m : ModT) : Later m m := ⟨rfl, Int.le_refl _, fun _ h => h, [], by simp, fun v hv => by cases hv⟩
theorem Later.trans {a b c : ModT} (h : Later a b) (h2 : Later b c) : Later a c := by
  obtain ⟨t, e1, e2⟩ := h.vers
  obtain ⟨u, f1, f2⟩ := h2.vers
  refine ⟨h2.geo.trans h.geo, Int.le_trans h.epoch h2.epoch, fun e q => h2.gone e (h.gone e q), t ++ u, by rw [f1, e1, List.append_assoc], fun v hv => ?_⟩
  rcases List.mem_append.1 hv with q | q
  · exact e2 v q
  · exact Int.le_trans h.epoch (f2 v q)
theorem put_gone (b : BookT) (r : RecT) (e : Int) (h : goneB b e = true) : goneB (putB b r) e = true := by
  unfold putB
  repeat' split
  all_goals first | exact h | skip
  show (look (putM b.gone r.target true) e).getD false = true
  rw [look_put]
  split
  · rfl
  · exact h
theorem later_apply (m : ModT) (r : RecT) : Later m (applyM m r) := by
  have key : applyB m.book r = m.book ∨ applyB m.book r = putB m.book r := by unfold applyB; split <;> simp
  refine ⟨rfl, ?_, fun e h => ?_, [], by simp [applyM], fun v hv => by cases hv⟩
  · show m.book.epoch ≤ (applyB m.book r).epoch
    rcases key with q | q <;> rw [q]
    · exact Int.le_refl _
    · rw [put_epoch]; split <;> omega
  · show goneB (applyB m.book r) e = true
    rcases key with q | q <;> rw [q]
    · exact h
    · exact put_gone _ _ _ h
theorem later_do (z : ByteArray) (m : ModT) (c : CallT) : Later m (doM z m c) := by
  unfold doM
  split
  · unfold writeM
    split
    · exact ⟨rfl, Int.le_refl _, fun _ h => h, [_], rfl, fun v hv => by obtain rfl := List.mem_singleton.1 hv; exact Int.le_refl _⟩
    · exact Later.refl m
  · split
    · unfold closeM
      split
      · exact later_apply _ _
      · exact Later.refl m
    · split
      · unfold sealM
        split
        · exact later_apply _ _
        · exact Later.refl m
      · split
        · unfold tickM
          split
          · exact ⟨rfl, Int.le_refl _, fun _ h => h, [], by simp, fun v hv => by cases hv⟩
          · exact Later.refl m
        · exact Later.refl m
theorem later_dos (z : ByteArray) (l : List CallT) : ∀ (m : ModT), Later m (l.foldl (doM z) m) := by
  induction l with
  | nil => intro m; exact Later.refl m
  | cons c l ih => intro m; exact (later_do z m c).trans (ih _)
theorem newest_later (l t : List VerD) (lba fr up : Int) (h : ∀ v ∈ t, up < v.2.1) : newestN (l ++ t) lba fr up = newestN l lba fr up := by
  unfold newestN
  rw [List.foldr_append]
  congr 1
  induction t with
  | nil => rfl
  | cons v t ih =>
    rw [List.foldr_cons, ih (fun u hu => h u (List.mem_cons_of_mem _ hu)), stepV]
    have := h v List.mem_cons_self
    rw [if_neg]
    simp only [hitB, decide_eq_true_eq]
    omega
/-- what is read as of a closed epoch is read so ever after, but what was purged -/
theorem read_later {m m' : ModT} (h : Later m m') (lba ep : Int) (he : ep < m.book.epoch) : readA m' lba ep = readA m lba ep ∨ ((readA m lba ep).err = 0 ∧ (readA m' lba ep).err = 13) := by
  obtain ⟨t, e1, e2⟩ := h.vers
  have e3 : newestN m'.vers lba m'.geo.first ep = newestN m.vers lba m.geo.first ep := by
    rw [e1, h.geo, newest_later]
    intro v hv
    have := e2 v hv
    omega
  have e4 : placeE m' lba = placeE m lba := by unfold placeE; rw [h.geo]
  have e5 : (ep < m'.geo.first ∨ m'.book.epoch < ep) ↔ (ep < m.geo.first ∨ m.book.epoch < ep) := by
    rw [h.geo]
    have := h.epoch
    omega
  unfold readA
  rw [e4, e3]
  by_cases h1 : placeE m lba ≠ 0
  · rw [if_pos h1, if_pos h1]; exact Or.inl rfl
  · rw [if_neg h1, if_neg h1]
    by_cases h2 : ep < m.geo.first ∨ m.book.epoch < ep
    · rw [if_pos h2, if_pos (e5.2 h2)]; exact Or.inl rfl
    · rw [if_neg h2, if_neg (fun q => h2 (e5.1 q))]
      cases newestN m.vers lba m.geo.first ep with
      | none => exact Or.inl rfl
      | some v =>
        simp only
        cases hg : goneB m.book v.2.1
        · cases hg2 : goneB m'.book v.2.1
          · exact Or.inl rfl
          · exact Or.inr ⟨rfl, rfl⟩
        · rw [h.gone _ hg]; exact Or.inl rfl
/-- closing never fails for want of room -/
theorem close_tells {m : ModT} {z : ByteArray} (h : ModI m) (hz : z.size = 32) :
    (closeE m = 0 ∧ (closeM m z).book.epoch = m.book.epoch + 1) ∨ (closeE m = 6 ∧ closeM m z = m ∧ (roomM m = 0 ∨ m.book.epoch = 4294967295)) := by
  by_cases hc : 4294967295 ≤ m.book.epoch ∨ geoData m.geo ≤ m.used
  · have e : closeE m = 6 := by rw [closeE, if_pos hc]
    refine Or.inr ⟨e, by rw [closeM, e]; rfl, ?_⟩
    rcases hc with q | q
    · have := h.epoch.2; exact Or.inr (by omega)
    · exact Or.inl (room_none h q)
  · have e : closeE m = 0 := by rw [closeE, if_neg hc]
    refine Or.inl ⟨e, ?_⟩
    rw [closeM, if_pos e]
    show (applyB m.book (closeR m z)).epoch = _
    rw [applyB, if_pos (close_may h hz h.epoch.2), put_epoch]
    exact if_pos rfl
end Ks
/- What the document's book and model reckon out of rows alone; it is what the program's keep. Plain. No program is in sight. -/
namespace Ks
open Go Go.RowKit
set_option linter.unusedVariables false
set_option linter.unusedSimpArgs false
def epochR (f : Int) (l : List RecT) : Int := l.foldl (fun n r => if r.kind = 1 then n + 1 else n) f
def nowR (l : List RecT) : Int := match l.getLast? with
  | none => 0
  | some r => r.time
def untilR (l : List RecT) (t : Int) : Int := l.foldl (fun n r => if r.kind = 2 ∧ r.target = t then r.till else n) 0
def goneR (l : List RecT) (t : Int) : Bool := l.any fun r => decide (r.kind = 5 ∧ r.target = t)
def holdStep (s : ByteArray) (n : Int) (r : RecT) : Int := if r.kind = 4 ∧ r.name = s then -1 else if r.kind = 3 ∧ r.name = s then r.target else n
def holdR (l : List RecT) (s : ByteArray) : Int := l.foldl (holdStep s) (-1)
def bookR (f : Int) (l : List RecT) : BookT := l.foldl putB (newB f)
/-- records as they may stand in a row -/
def GoodR (l : List RecT) : Prop := ∀ r ∈ l, chkB r = true
theorem chk_kinds {r : RecT} (h : chkB r = true) : (r.kind = 1 ∨ r.kind = 2 ∨ r.kind = 3 ∨ r.kind = 4 ∨ r.kind = 5) ∧ (r.kind ≠ 1 → r.kind ≠ 4 → 0 ≤ r.target ∧ r.target < r.epoch) ∧ (0 ≤ r.epoch ∧ r.epoch ≤ 4294967295) ∧ (0 ≤ r.time ∧ r.time ≤ 1099511627776) := by
  have h2 := chk_epoch h
  have h3 := chk_time h
  unfold chkB restB at h
  simp only [Bool.and_eq_true] at h
  obtain ⟨⟨⟨h, -⟩, -⟩, -⟩ := h
  have hw : ∀ t, withB t (wrap64 (r.epoch - 1)) = true → 0 ≤ t ∧ t < r.epoch := fun t q => by
    unfold withB at q
    rw [decide_eq_true_eq] at q
    unfold wrap64 at q
    omega
  split at h
  · rename_i k; exact ⟨Or.inl k, fun q => absurd k q, h2, h3⟩
  · split at h
    · rename_i k1 k
      rw [Bool.and_eq_true] at h
      exact ⟨by omega, fun _ _ => hw _ h.2, h2, h3⟩
    · split at h
      · rename_i k1 k2 k
        rw [Bool.and_eq_true] at h
        exact ⟨by omega, fun _ _ => hw _ h.1, h2, h3⟩
      · split at h
        · rename_i k; exact ⟨by omega, fun _ q => absurd k q, h2, h3⟩
        · cases h
theorem bookR_snoc (f : Int) (l : List RecT) (r : RecT) : bookR f (l ++ [r]) = putB (bookR f l) r := by simp [bookR]
theorem good_snoc {l : List RecT} {r : RecT} (h : GoodR (l ++ [r])) : GoodR l ∧ chkB r = true := ⟨fun x hx => h x (by simp [hx]), h r (by simp)⟩
theorem good_add {l : List RecT} {r : RecT} (h : GoodR l) (hr : chkB r = true) : GoodR (l ++ [r]) := fun x hx => by
  rcases List.mem_append.1 hx with q | q
  · exact h x q
  · rw [List.mem_singleton] at q; rw [q]; exact hr
/-- a row, from behind -/
theorem rsnoc {α : Type} {Q : List α → Prop} (h0 : Q []) (h1 : ∀ c p, Q c → Q (c ++ [p])) (c : List α) : Q c := by
  have key : ∀ l : List α, Q l.reverse := by
    intro l
    induction l with
    | nil => exact h0
    | cons p l ih => rw [List.reverse_cons]; exact h1 _ p ih
  have := key c.reverse
  rwa [List.reverse_reverse] at this
theorem epoch_eq (f : Int) (l : List RecT) : (bookR f l).epoch = epochR f l := by
  refine rsnoc (Q := fun l => (bookR f l).epoch = epochR f l) rfl (fun l r ih => ?_) l
  rw [bookR_snoc, put_epoch, ih]
  simp [epochR]
theorem now_eq (f : Int) (l : List RecT) : (bookR f l).now = nowR l := by
  refine rsnoc (Q := fun l => (bookR f l).now = nowR l) rfl (fun l r ih => ?_) l
  rw [bookR_snoc, put_now]
  simp [nowR]
theorem first_eq (f : Int) (l : List RecT) : (bookR f l).first = f := by
  refine rsnoc (Q := fun l => (bookR f l).first = f) rfl (fun l r ih => ?_) l
  rw [bookR_snoc, put_first, ih]
theorem until_eq (f t : Int) (l : List RecT) : tillN (bookR f l) t = untilR l t := by
  refine rsnoc (Q := fun l => tillN (bookR f l) t = untilR l t) rfl (fun l r ih => ?_) l
  rw [bookR_snoc]
  unfold untilR at ih ⊢
  rw [List.foldl_append, List.foldl_cons, List.foldl_nil, ← ih]
  unfold putB
  split
  · rename_i k; rw [if_neg (by omega)]; rfl
  · split
    · rename_i k
      show (look (putM (bookR f l).till r.target r.till) t).getD 0 = _
      rw [look_put]
      by_cases e : r.target = t
      · rw [if_pos e, if_pos ⟨k, e⟩]; rfl
      · rw [if_neg e, if_neg (fun q => e q.2)]; rfl
    · rename_i k
      have hz : (if r.kind = 2 ∧ r.target = t then r.till else tillN (bookR f l) t) = tillN (bookR f l) t := if_neg (fun q => k q.1)
      rw [hz]
      (repeat' split) <;> rfl
theorem gone_eq (f t : Int) (l : List RecT) : GoodR l → goneB (bookR f l) t = goneR l t := by
  refine rsnoc (Q := fun l => GoodR l → goneB (bookR f l) t = goneR l t) (fun _ => rfl) (fun l r ih hg => ?_) l
  obtain ⟨g1, g2⟩ := good_snoc hg
  have hk := (chk_kinds g2).1
  rw [bookR_snoc]
  unfold goneR at ih ⊢
  rw [List.any_append, ← ih g1]
  have hz : ∀ b : Bool, r.kind ≠ 5 → (b || [r].any fun r => decide (r.kind = 5 ∧ r.target = t)) = b := fun b q => by simp [q]
  unfold putB
  split
  · rename_i k; rw [hz _ (by omega)]; rfl
  · split
    · rename_i k; rw [hz _ (by omega)]; rfl
    · split
      · rename_i k; rw [hz _ (by omega)]; rfl
      · split
        · rename_i k; rw [hz _ (by omega)]; rfl
        · have k5 : r.kind = 5 := by omega
          show (look (putM (bookR f l).gone r.target true) t).getD false = _
          rw [look_put]
          by_cases e : r.target = t
          · rw [if_pos e]; simp [k5, e]
          · rw [if_neg e]; simp [e]; rfl
theorem holds_once (f : Int) (l : List RecT) : Once (bookR f l).holds := by
  refine rsnoc (Q := fun l => Once (bookR f l).holds) List.Pairwise.nil (fun l r ih => ?_) l
  rw [bookR_snoc]
  unfold putB
  (repeat' split) <;> first | exact ih | exact once_put ih _ _ | exact once_del ih _
theorem hold_eq (f : Int) (s : ByteArray) (l : List RecT) : (look (bookR f l).holds s).getD (-1) = holdR l s := by
  refine rsnoc (Q := fun l => (look (bookR f l).holds s).getD (-1) = holdR l s) rfl (fun l r ih => ?_) l
  have ho := holds_once f l
  rw [bookR_snoc]
  unfold holdR at ih ⊢
  rw [List.foldl_append, List.foldl_cons, List.foldl_nil, ← ih]
  unfold putB holdStep
  split
  · rename_i k; rw [if_neg (by omega), if_neg (by omega)]
  · split
    · rename_i k; rw [if_neg (by omega), if_neg (by omega)]
    · split
      · rename_i k
        rw [if_neg (by omega)]
        show (look (putM (bookR f l).holds r.name r.target) s).getD (-1) = _
        rw [look_put]
        by_cases e : r.name = s
        · rw [if_pos e, if_pos ⟨k, e⟩]; rfl
        · rw [if_neg e, if_neg (fun q => e q.2)]
      · rename_i k3
        split
        · rename_i k
          show (look (delM (bookR f l).holds r.name) s).getD (-1) = _
          rw [look_del ho]
          by_cases e : r.name = s
          · rw [if_pos e, if_pos ⟨k, e⟩]; rfl
          · rw [if_neg e, if_neg (fun q => e q.2), if_neg (fun q => e q.2)]
        · rename_i k
          rw [if_neg (fun q => k q.1), if_neg (fun q => k3 q.1)]
theorem hold_pos (f : Int) (l : List RecT) : GoodR l → ∀ p ∈ (bookR f l).holds, 0 ≤ p.2 := by
  refine rsnoc (Q := fun l => GoodR l → ∀ p ∈ (bookR f l).holds, 0 ≤ p.2) (fun _ p hp => by cases hp) (fun l r ih hg => ?_) l
  obtain ⟨g1, g2⟩ := good_snoc hg
  have hk := chk_kinds g2
  have h0 := ih g1
  rw [bookR_snoc]
  unfold putB
  split
  · exact h0
  · split
    · exact h0
    · split
      · rename_i k
        intro p hp
        rcases mem_put hp with rfl | q
        · exact (hk.2.1 (by omega) (by omega)).1
        · exact h0 p q
      · split
        · intro p hp; exact h0 p (mem_del hp)
        · exact h0
/-- who holds something -/
theorem hold_iff (f : Int) (l : List RecT) (hg : GoodR l) (s : ByteArray) : (0 ≤ holdR l s ↔ (look (bookR f l).holds s).isSome = true) ∧ ∀ t, 0 ≤ t → (holdR l s = t ↔ look (bookR f l).holds s = some t) := by
  have h := hold_eq f s l
  have hp := hold_pos f l hg
  cases hl : look (bookR f l).holds s with
  | none =>
    rw [hl] at h
    have : holdR l s = -1 := h.symm
    exact ⟨by rw [this]; simp, fun t ht => by rw [this]; constructor; (intro q; omega); (intro q; cases q)⟩
  | some t =>
    rw [hl] at h
    have e : holdR l s = t := h.symm
    have h2 := hp _ (look_mem hl)
    refine ⟨by rw [e]; simp; exact h2, fun t' ht => by rw [e]; constructor; (intro q; rw [q]); (intro q; cases q; rfl)⟩
/-- rows with the same members, none twice, are as long -/
theorem len_le {α : Type} [DecidableEq α] (a : List α) : ∀ b : List α, a.Nodup → (∀ x ∈ a, x ∈ b) → a.length ≤ b.length := by
  induction a with
  | nil => intro b _ _; simp
  | cons x a ih =>
    intro b hn hs
    rw [List.nodup_cons] at hn
    have h1 := ih (b.erase x) hn.2 (fun y hy => by
      rw [List.mem_erase_of_ne (show y ≠ x from fun e => hn.1 (by rw [← e]; exact hy))]
      exact hs y (by simp [hy]))
    rw [List.length_erase_of_mem (hs x (by simp))] at h1
    have : 0 < b.length := List.length_pos_of_mem (hs x (by simp))
    simp only [List.length_cons]
    omega
theorem len_same {α : Type} [DecidableEq α] (a b : List α) (ha : a.Nodup) (hb : b.Nodup) (h : ∀ x, x ∈ a ↔ x ∈ b) : a.length = b.length :=
  Nat.le_antisymm (len_le a b ha fun x => (h x).1) (len_le b a hb fun x => (h x).2)
theorem keys_nodup {κ α : Type} [DecidableEq κ] {m : List (κ × α)} (h : Once m) : (m.map Prod.fst).Nodup := by
  induction m with
  | nil => simp
  | cons p m ih =>
    unfold Once at h
    rw [List.pairwise_cons] at h
    rw [List.map_cons, List.nodup_cons]
    refine ⟨fun hp => ?_, ih h.2⟩
    obtain ⟨q, q1, q2⟩ := List.mem_map.1 hp
    exact h.1 q q1 q2.symm
theorem key_mem {κ α : Type} [DecidableEq κ] (m : List (κ × α)) (x : κ) : x ∈ m.map Prod.fst ↔ (look m x).isSome = true := by
  constructor
  · intro h
    obtain ⟨p, h1, h2⟩ := List.mem_map.1 h
    cases hl : look m x with
    | some v => rfl
    | none => exact absurd h2 (look_none.1 hl p h1)
  · intro h
    cases hl : look m x with
    | none => rw [hl] at h; cases h
    | some v => exact List.mem_map.2 ⟨(x, v), look_mem hl, rfl⟩
/-- names that hold something -/
def NamesR (l : List RecT) (N : List ByteArray) : Prop := N.Nodup ∧ ∀ s, s ∈ N ↔ 0 ≤ holdR l s
theorem names_len (f : Int) (l : List RecT) (hg : GoodR l) (N : List ByteArray) (h : NamesR l N) : N.length = (bookR f l).holds.length := by
  have := len_same N ((bookR f l).holds.map Prod.fst) h.1 (keys_nodup (holds_once f l)) fun s => by rw [h.2, key_mem, (hold_iff f l hg s).1]
  simpa using this
theorem held_eq (f : Int) (l : List RecT) (hg : GoodR l) (N : List ByteArray) (h : NamesR l N) (t : Int) (ht : 0 ≤ t) : (N.filter fun s => decide (holdR l s = t)) = [] ↔ heldN (bookR f l) t = 0 := by
  unfold heldN
  rw [List.length_eq_zero_iff, List.filter_eq_nil_iff, List.filter_eq_nil_iff]
  constructor
  · intro q p hp e
    have e2 : p.2 = t := by simpa using e
    have h1 := look_of_mem (holds_once f l) hp
    have h2 := ((hold_iff f l hg p.1).2 t ht).2 (e2 ▸ h1)
    refine q p.1 ((h.2 _).2 (by rw [h2]; exact ht)) (by simpa using h2)
  · intro q s hs e
    have e2 : holdR l s = t := by simpa using e
    have h1 := ((hold_iff f l hg s).2 t ht).1 e2
    exact q (s, t) (look_mem h1) (by simp)
/-- which record may be, reckoned out of the row -/
def mayR (f : Int) (l : List RecT) (n : Nat) (none' : Bool) (r : RecT) : Int :=
  if chkB r = false then 2 else if r.epoch ≠ epochR f l ∨ r.time < nowR l then 16 else if r.kind = 1 then 0
  else if r.kind = 4 then (if holdR l r.name < 0 then 7 else 0) else if r.target < f then 7 else if goneR l r.target then 13
  else if r.kind = 2 ∧ r.till < untilR l r.target then 12 else if r.kind = 3 ∧ 0 ≤ holdR l r.name then 19 else if r.kind = 3 ∧ 64 ≤ (n : Int) then 5
  else if r.kind = 5 ∧ r.time < untilR l r.target then 9 else if r.kind = 5 ∧ none' = false then 10 else if r.kind = 5 ∧ r.till ≠ untilR l r.target then 2 else 0
theorem may_eq (f : Int) (l : List RecT) (hg : GoodR l) (N : List ByteArray) (h : NamesR l N) (r : RecT) : mayR f l N.length (N.filter fun s => decide (holdR l s = r.target)).isEmpty r = mayE (bookR f l) r := by
  unfold mayR mayE
  rw [epoch_eq, now_eq]
  cases hc : chkB r with
  | false => rfl
  | true =>
    simp only [Bool.true_eq_false, if_false]
    have hk := chk_kinds hc
    by_cases h16 : r.epoch ≠ epochR f l ∨ r.time < nowR l
    · rw [if_pos h16, if_pos h16]
    rw [if_neg h16, if_neg h16]
    by_cases k1 : r.kind = 1
    · rw [if_pos k1, targetE, if_pos k1, if_neg (by decide), kindE, if_neg (by omega), if_neg (by omega), if_neg (by omega)]
    rw [if_neg k1]
    have hH := hold_iff f l hg r.name
    by_cases k4 : r.kind = 4
    · rw [if_pos k4, targetE, if_neg k1, if_pos k4, kindE, if_neg (show ¬ r.kind = 2 by omega), if_neg (show ¬ r.kind = 3 by omega), if_neg (show ¬ r.kind = 5 by omega)]
      by_cases hh : (look (bookR f l).holds r.name).isSome = true
      · rw [if_pos hh, if_neg (by have := hH.1.2 hh; omega)]; rfl
      · rw [if_neg hh, if_pos (by have : ¬ 0 ≤ holdR l r.name := fun q => hh (hH.1.1 q); omega)]; rfl
    rw [if_neg k4]
    have htg := hk.2.1 k1 k4
    rw [targetE, if_neg k1, if_neg k4, first_eq, gone_eq f _ l hg]
    by_cases ht : r.target < f
    · rw [if_pos ht, if_pos ht]; rfl
    rw [if_neg ht, if_neg ht]
    cases hgo : goneR l r.target with
    | true => rfl
    | false =>
      simp only [Bool.false_eq_true, if_false, ne_eq, not_true_eq_false]
      unfold kindE
      rw [until_eq]
      by_cases k2 : r.kind = 2
      · simp [k2]
      · simp only [k2, false_and, if_false]
        by_cases k3 : r.kind = 3
        · simp only [k3, true_and, if_true, show ¬ (3 : Int) = 5 by decide, false_and, if_false]
          unfold bookHoldE
          by_cases hh : (look (bookR f l).holds r.name).isSome = true
          · rw [if_pos hh, if_pos (hH.1.2 hh)]
          · rw [if_neg hh, if_neg (fun q => hh (hH.1.1 q)), names_len f l hg N h]
            by_cases h64 : 64 ≤ (bookR f l).holds.length
            · rw [if_pos h64, if_pos (by omega)]
            · rw [if_neg h64, if_neg (by omega)]
        · have k5 : r.kind = 5 := by omega
          simp only [k3, k5, false_and, if_false, true_and, if_true, show ¬ (5 : Int) = 3 by decide]
          unfold purgeE
          rw [until_eq]
          by_cases h9 : r.time < untilR l r.target
          · rw [if_pos h9, if_pos h9]
          rw [if_neg h9, if_neg h9]
          have he := held_eq f l hg N h r.target htg.1
          by_cases h10 : heldN (bookR f l) r.target = 0
          · have e1 : (N.filter fun s => decide (holdR l s = r.target)).isEmpty = true := by rw [he.2 h10]; rfl
            rw [e1, if_neg (show ¬ 0 < heldN (bookR f l) r.target by omega)]
            simp only [Bool.true_eq_false, if_false]
          · have e1 : (N.filter fun s => decide (holdR l s = r.target)).isEmpty = false := by
              cases hL : (N.filter fun s => decide (holdR l s = r.target)) with
              | nil => exact absurd (he.1 hL) h10
              | cons a b => rfl
            rw [e1, if_pos rfl, if_pos (show 0 < heldN (bookR f l) r.target by omega)]
/-! The model -/
def newestR (l : List VerD) (lba fr up : Int) : Option VerD := l.foldl (fun b v => if hitB v lba fr up = true ∧ (b = none ∨ (b.map fun u => u.2.1).getD 0 ≤ v.2.1) then some v else b) none
theorem newest_some (lba fr up : Int) (l : List VerD) (v : VerD) : l.foldr (stepV lba fr up) (some v) = match newestN l lba fr up with
    | none => some v
    | some u => if v.2.1 < u.2.1 then some u else some v := by
  induction l with
  | nil => rfl
  | cons x l ih =>
    unfold newestN at ih ⊢
    rw [List.foldr_cons, List.foldr_cons, ih]
    cases hx : hitB x lba fr up with
    | false => simp only [stepV, hx, Bool.false_eq_true, if_false]
    | true =>
      simp only [stepV, hx, if_true]
      cases hn : l.foldr (stepV lba fr up) none with
      | none => simp only [betterV]
      | some u =>
        simp only [betterV]
        by_cases h1 : v.2.1 < u.2.1
        · simp only [h1, if_true]
          by_cases h2 : u.2.1 < x.2.1
          · simp only [h2, if_true]; rw [if_pos (by omega)]
          · simp only [h2, if_false]; rw [if_pos h1]
        · simp only [h1, if_false]
          by_cases h2 : u.2.1 < x.2.1
          · simp only [h2, if_true]
          · simp only [h2, if_false]; rw [if_neg h1, if_neg (by omega)]
theorem newest_eq (lba fr up : Int) (l : List VerD) : newestR l lba fr up = newestN l lba fr up := by
  refine rsnoc (Q := fun l => newestR l lba fr up = newestN l lba fr up) rfl (fun l v ih => ?_) l
  unfold newestR at ih ⊢
  rw [List.foldl_append, List.foldl_cons, List.foldl_nil, ih, newest_snoc]
  cases hv : hitB v lba fr up with
  | false => simp only [stepV, hv, Bool.false_eq_true, false_and, if_false]; rfl
  | true =>
    simp only [stepV, hv, true_and, if_true, betterV]
    rw [newest_some]
    cases hn : newestN l lba fr up with
    | none => simp
    | some u =>
      simp only [reduceCtorEq, false_or, Option.map_some, Option.getD_some]
      by_cases h : v.2.1 < u.2.1
      · rw [if_neg (by omega), if_pos h]
      · rw [if_pos (by omega), if_neg h]
/-- how many places have a version -/
def placesR (l : List VerD) (fr : Int) (n : Nat) : Nat := ((List.range n).filter fun (i : Nat) => (newestR l i fr 4294967295).isSome).length
theorem places_mem (l : List VerD) (ep x : Int) : (look (placesL l ep) x).isSome = true ↔ ∃ v ∈ l, ep ≤ v.2.1 ∧ v.1 = x := by
  refine rsnoc (Q := fun l => (look (placesL l ep) x).isSome = true ↔ ∃ v ∈ l, ep ≤ v.2.1 ∧ v.1 = x) ⟨(fun h => by cases h), (fun ⟨v, hv, _⟩ => by cases hv)⟩ (fun l v ih => ?_) l
  have e : placesL (l ++ [v]) ep = if ep ≤ v.2.1 then putM (placesL l ep) v.1 true else placesL l ep := by simp [placesL]
  rw [e]
  by_cases h : ep ≤ v.2.1
  · rw [if_pos h, look_put]
    by_cases e2 : v.1 = x
    · rw [if_pos e2]
      exact ⟨fun _ => ⟨v, by simp, h, e2⟩, fun _ => rfl⟩
    · rw [if_neg e2, ih]
      constructor
      · rintro ⟨u, q1, q2⟩; exact ⟨u, by simp [q1], q2⟩
      · rintro ⟨u, q1, q2, q3⟩
        rcases List.mem_append.1 q1 with q | q
        · exact ⟨u, q, q2, q3⟩
        · rw [List.mem_singleton] at q; subst q; exact absurd q3 e2
  · rw [if_neg h, ih]
    constructor
    · rintro ⟨u, q1, q2⟩; exact ⟨u, by simp [q1], q2⟩
    · rintro ⟨u, q1, q2, q3⟩
      rcases List.mem_append.1 q1 with q | q
      · exact ⟨u, q, q2, q3⟩
      · rw [List.mem_singleton] at q; subst q; exact absurd q2 h
theorem places_once (l : List VerD) (ep : Int) : Once (placesL l ep) := by
  refine rsnoc (Q := fun l => Once (placesL l ep)) List.Pairwise.nil (fun l v ih => ?_) l
  have e : placesL (l ++ [v]) ep = if ep ≤ v.2.1 then putM (placesL l ep) v.1 true else placesL l ep := by simp [placesL]
  rw [e]
  split
  · exact once_put ih _ _
  · exact ih
theorem newest_is (l : List VerD) (lba fr up : Int) : (newestN l lba fr up).isSome = true ↔ ∃ v ∈ l, hitB v lba fr up = true := by
  constructor
  · intro h
    cases hn : newestN l lba fr up with
    | none => rw [hn] at h; cases h
    | some v => exact ⟨v, newest_mem hn⟩
  · rintro ⟨v, hv, hh⟩
    refine rsnoc (Q := fun l => v ∈ l → (newestN l lba fr up).isSome = true) (fun q => by cases q) (fun l u ih q => ?_) l hv
    rcases List.mem_append.1 q with q | q
    · have h1 := ih q
      cases hu : hitB u lba fr up with
      | false => rw [newest_miss _ _ _ _ _ hu]; exact h1
      | true =>
        rw [newest_snoc, stepV, hu, if_pos rfl, betterV, newest_some]
        split
        · rfl
        · split <;> rfl
    · rw [List.mem_singleton] at q
      subst q
      rw [newest_snoc, stepV, hh, if_pos rfl, betterV, newest_some]
      split
      · rfl
      · split <;> rfl
theorem places_eq (l : List VerD) (fr : Int) (n : Nat) (h : ∀ v ∈ l, (0 ≤ v.1 ∧ v.1 < n) ∧ v.2.1 ≤ 4294967295) : placesR l fr n = (placesL l fr).length := by
  have key := len_same (((List.range n).filter fun (i : Nat) => (newestR l i fr 4294967295).isSome).map fun (i : Nat) => (i : Int)) ((placesL l fr).map Prod.fst) (by
      exact List.pairwise_map.2 (List.Pairwise.imp (fun h e => h (Int.ofNat.inj e)) (List.Pairwise.filter _ List.nodup_range))) (keys_nodup (places_once l fr)) (fun x => by
    rw [key_mem, places_mem, List.mem_map]
    constructor
    · rintro ⟨i, h1, rfl⟩
      rw [List.mem_filter, newest_eq, newest_is] at h1
      obtain ⟨-, v, hv, hh⟩ := h1
      unfold hitB at hh
      rw [decide_eq_true_eq] at hh
      exact ⟨v, hv, hh.2.1, hh.1⟩
    · rintro ⟨v, hv, h1, h2⟩
      have h3 := h v hv
      refine ⟨x.toNat, ?_, by omega⟩
      rw [List.mem_filter, newest_eq, newest_is]
      refine ⟨List.mem_range.2 (by omega), v, hv, ?_⟩
      unfold hitB
      rw [decide_eq_true_eq]
      omega)
  simpa [placesR] using key
/-- a model whose book is that of its records -/
structure Twin (m : ModT) : Prop where
  book : m.book = bookR m.geo.first m.recs
  good : GoodR m.recs
theorem twin_new (g : GeoD) : Twin (newM g) := ⟨rfl, fun r hr => by cases hr⟩
theorem twin_apply {m : ModT} {r : RecT} (h : Twin m) (hr : mayE m.book r = 0) : Twin (applyM m r) := by
  have e1 : (applyM m r).book = putB m.book r := by show applyB m.book r = _; rw [applyB, if_pos hr]
  refine ⟨by rw [e1, h.book]; exact (bookR_snoc _ _ _).symm, good_add h.good (may_zero hr).1⟩
theorem twin_do {z : ByteArray} {m : ModT} (c : CallT) (h : Twin m) (hi : ModI m) (hz : z.size = 32) : Twin (doM z m c) := by
  unfold doM
  split
  · unfold writeM
    split
    · exact ⟨h.book, h.good⟩
    · exact h
  · split
    · unfold closeM
      split
      · exact twin_apply h (close_may hi hz hi.epoch.2)
      · exact h
    · split
      · unfold sealM
        split
        · rename_i hs; exact twin_apply h (seal_zero hs).2.1
        · exact h
      · split
        · unfold tickM
          split
          · exact ⟨h.book, h.good⟩
          · exact h
        · exact h
end Ks
/- Is a number within, is a text a name: of the program. -/
set_option maxRecDepth 100000
namespace Ks
open Go Go.RowKit
theorem nil_str {s : ByteArray} (h : s ≠ ⟨#[]⟩) : (s.toList == []) = false := by
  rw [ByteArray.toList_eq]
  cases hd : s.data.toList with
  | nil =>
    refine absurd ?_ h
    rcases s with ⟨⟨l⟩⟩
    simp at hd
    rw [hd]
  | cons x l => rfl
end Ks
namespace Go.Proofs.YtnkiokaeooopgaaGreat
open Go.RowKit Ks
set_option linter.unusedVariables false
theorem within_any (n m : Int) (w : World) : Calls Tryz.prog 92 #[.int .i64 n, .int .i64 m] w fun e w' => e = .returned (.bool (withB n m)) ∧ w' = w := by
  refine calls_by fun R HR => ?_
  by_cases h0 : n < 0
  · have HZ := Lib.hid (show withB n m = false from decide_eq_false fun h => by omega)
    have h1 : decide (0 ≤ n) = false := decide_eq_false (by omega)
    go_enter Tryz.func92, Tryz.ntmps92
    go_wp2
    exact HR.out _ _ ⟨by rw [HZ.out]; try rfl, rfl⟩
  · have h1 : decide (0 ≤ n) = true := decide_eq_true (by omega)
    have h2 : 0 ≤ n := by omega
    by_cases h3 : n ≤ m
    · have HZ := Lib.hid (show withB n m = true from decide_eq_true ⟨h2, h3⟩)
      go_enter Tryz.func92, Tryz.ntmps92
      go_wp2
      exact HR.out _ _ ⟨by rw [HZ.out]; try rfl, rfl⟩
    · have HZ := Lib.hid (show withB n m = false from decide_eq_false fun h => h3 h.2)
      have h4 : decide (n ≤ m) = false := decide_eq_false h3
      go_enter Tryz.func92, Tryz.ntmps92
      go_wp2
      exact HR.out _ _ ⟨by rw [HZ.out]; try rfl, rfl⟩
theorem name_any (s : ByteArray) (w : World) (hs : s.size ≤ 9223372036854775807) : Calls Tryz.prog 71 #[.string s] w fun e w' => e = .returned (.bool (nameB s)) ∧ w' = w := by
  refine calls_by fun R HR => ?_
  have hsi : (s.size : Int) ≤ 9223372036854775807 := by omega
  go_enter Tryz.func71, Tryz.ntmps71
  go_wp2_with fail
  go_loopw [6] (fun i wx => ∃ (k : Nat), k ≤ s.size ∧ i = .int .i64 k ∧ wx = w ∧ Hid ((s.data.toList.take k).all okB = true)) (fun i _ => s.size - (intOf i).toNat)
  case atStart => exact ⟨0, Nat.zero_le _, rfl, rfl, Lib.hid rfl⟩
  case round =>
    obtain ⟨k, hk, rfl, hwr, hN⟩ := hrel
    subst hwr
    by_cases hlt : k < s.size
    · have HA := Lib.hid (all_take k hlt okB)
      have HS := Lib.hid (fun h => all_stop k hlt okB h)
      have HK : Hid (∀ b : UInt8, okB b = decide ((97 ≤ b.toNat ∧ b.toNat ≤ 122) ∨ (48 ≤ b.toNat ∧ b.toNat ≤ 57))) := Lib.hid fun _ => rfl
      by_cases c1 : ((s[k]).toNat : Int) < 97
      · by_cases c3 : ((s[k]).toNat : Int) < 48
        · have HZ := Lib.hid (show nameB s = false by rw [nameB, HS.out (by rw [HK.out, decide_eq_false_iff_not]; omega)]; rfl)
          go_wp2
          exact HR.out _ _ ⟨by rw [HZ.out]; try rfl, rfl⟩
        · by_cases c4 : 57 < ((s[k]).toNat : Int)
          · have HZ := Lib.hid (show nameB s = false by rw [nameB, HS.out (by rw [HK.out, decide_eq_false_iff_not]; omega)]; rfl)
            go_wp2
            exact HR.out _ _ ⟨by rw [HZ.out]; try rfl, rfl⟩
          · have HQ := Lib.hid (show (s.data.toList.take (k + 1)).all okB = true by rw [HA.out, hN.out, HK.out, decide_eq_true (by omega)]; rfl)
            go_wp2
            go_roundw
            case rel => exact ⟨k + 1, by omega, by go_num, trivial, HQ⟩
            case measure => simp [intOf]; omega
      · by_cases c2 : 122 < ((s[k]).toNat : Int)
        · have c3 : ¬ ((s[k]).toNat : Int) < 48 := by omega
          have c4 : 57 < ((s[k]).toNat : Int) := by omega
          have HZ := Lib.hid (show nameB s = false by rw [nameB, HS.out (by rw [HK.out, decide_eq_false_iff_not]; omega)]; rfl)
          go_wp2
          exact HR.out _ _ ⟨by rw [HZ.out]; try rfl, rfl⟩
        · have HQ := Lib.hid (show (s.data.toList.take (k + 1)).all okB = true by rw [HA.out, hN.out, HK.out, decide_eq_true (by omega)]; rfl)
          go_wp2
          go_roundw
          case rel => exact ⟨k + 1, by omega, by go_num, trivial, HQ⟩
          case measure => simp [intOf]; omega
    · obtain rfl : k = s.size := by omega
      have HN := Lib.hid (show s.data.toList.all okB = true by have h := hN.out; rwa [List.take_of_length_le (by rw [data_length]; exact Nat.le_refl _)] at h)
      clear hN
      by_cases h0 : s = ⟨#[]⟩
      · have HZ := Lib.hid (show nameB s = false by rw [nameB, decide_eq_false (fun h => h h0)]; simp)
        subst h0
        go_wp2
        exact HR.out _ _ ⟨by rw [HZ.out]; try rfl, rfl⟩
      · have h1 := nil_str h0
        by_cases h2 : s.size ≤ 16
        · have HZ := Lib.hid (show nameB s = true by rw [nameB, HN.out, decide_eq_true h0, decide_eq_true h2]; rfl)
          have h3 : (s.size : Int) ≤ 16 := by omega
          go_wp2
          exact HR.out _ _ ⟨by rw [HZ.out]; try rfl, rfl⟩
        · have HZ := Lib.hid (show nameB s = false by rw [nameB, decide_eq_false h2]; simp)
          have h3 : ¬ (s.size : Int) ≤ 16 := by omega
          have h4 : decide ((s.size : Int) ≤ 16) = false := decide_eq_false h3
          have h5 : decide (s.size ≤ 16) = false := decide_eq_false h2
          go_wp2
          exact HR.out _ _ ⟨by rw [HZ.out]; try rfl, rfl⟩
end Go.Proofs.YtnkiokaeooopgaaGreat
/- A call of a function at a step of a region that draws its order, by its contract. Plain. No program is in sight. -/
namespace Ks
open Go Go.RowKit
set_option linter.unusedVariables false
theorem step_call {P : Program} {ops : Array Oper} {o : Oper} {a : Act} {w : World} {K : Act → World → Prop} {Q : Exit → Act → World → Prop} {F : Prop} (hg : o.guard = none) (f : FuncId) (xs : Array Operand) (ts : Array TypeId)
    (hop : o.op = Op.call { callee := Callee.value (.func f), args := xs, argTypes := ts }) (eg : ∀ args w, (callFunc f args).run P w = .ok (.enter f args) w) (args : Array Value) (hargs : xs.toList.map a.eval = args.toList)
    {Φ : Value → World → Prop} (hc : Calls P f args w fun e w' => ∃ v, e = .returned v ∧ Φ v w') (hK : ∀ v w', Φ v w' → K (a.put o.dst v) w') : if Region.wanted o (yielded ops a.tmps) = true then Oper.wp P o a w K Q else F := by
  have hw : Region.wanted o (yielded ops a.tmps) = true := by simp [Region.wanted, hg]
  rw [if_pos hw]
  have hrun : (execOp a.eval o).run P w = .ok (.enter f args) w := by
    have h : xs.map a.eval = args := Array.toList_inj.1 (by simpa using hargs)
    simp [execOp, hop, resolve, Deferred.ofValue, Act.eval, invoke, eg, ← h]
  unfold Oper.wp
  rw [hrun, Oper.upon_enter]
  exact hc.mono fun e w' ⟨v, he, h⟩ => by subst he; exact hK v w' h
/-- a cell that was there, behind a callee that turned nothing -/
theorem cell_on {w w1 : World} {n o : Nat} {v : Value} (hb : Below w.heap.size w w1) (h : w.cell? ⟨n, o, none⟩ = some v) : w1.cell? ⟨n, o, none⟩ = some v ∧ ∀ ob, (w1.alloc ob).cell? ⟨n, o, none⟩ = some v := by
  have hlt : n < w.heap.size := World.block_lt_of_cell? w _ h
  have h1 := (hb.cell (p := ⟨n, o, none⟩) hlt).trans h
  exact ⟨h1, fun ob => (((Below.refl w1.heap.size w1).alloc (Nat.le_refl _) ob).cell (p := ⟨n, o, none⟩) (Nat.lt_of_lt_of_le hlt hb.size)).trans h1⟩
theorem blk_on {w w1 : World} {b : Nat} {o : Obj} (hb : Below w.heap.size w w1) (h : w.heap[b]? = some o) : w1.heap[b]? = some o := (hb.block b (Array.getElem?_eq_some_iff.1 h).1).trans h
end Ks
/- A region that draws its order, some of whose calls turn what was there, each at most once: walked once. The class of worlds goes by what was done, and what it yielded. Plain. No program is in sight. -/
namespace Ks
open Go Go.RowKit
set_option linter.unusedVariables false

abbrev Told := Nat → Option Value
def upd (f : Told) (k : Nat) (v : Value) : Told := fun j => bif Nat.beq j k then some v else f j
theorem beq_ne {j k : Nat} (h : j ≠ k) : Nat.beq j k = false := by rw [← Bool.not_eq_true]; exact fun e => h (Nat.eq_of_beq_eq_true e)
theorem beq_self (k : Nat) : Nat.beq k k = true := Nat.beq_refl k
theorem upd_self (f : Told) (k : Nat) (v : Value) : upd f k v k = some v := by unfold upd; rw [beq_self]; rfl
theorem upd_ne (f : Told) {j k : Nat} (v : Value) (h : j ≠ k) : upd f k v j = f j := by unfold upd; rw [beq_ne h]; rfl
theorem upd_comm (f : Told) {i j : Nat} (u v : Value) (h : i ≠ j) : upd (upd f i u) j v = upd (upd f j v) i u := by
  funext k
  by_cases e : k = i
  · subst e; rw [upd_ne _ _ h, upd_self, upd_self]
  · by_cases e2 : k = j
    · subst e2; rw [upd_self, upd_ne _ _ e, upd_self]
    · rw [upd_ne _ _ e2, upd_ne _ _ e, upd_ne _ _ e, upd_ne _ _ e2]

section
variable {P : Program} {ops : Array Oper} {md : Region.Mode} {C : Told → World → Prop}

def movesUpon (P : Program) (D : Value → World → Prop) : Result Next → Prop
  | .ok (.value u) w' => D u w'
  | .ok .skip w' => D undef w'
  | .ok (.enter f args) w' => Calls P f args w' (fun e w'' => ∃ v, e = .returned v ∧ D v w'')
  | _ => False
/-- what it waits for yielded the same -/
def agree (md : Region.Mode) (o : Oper) (f g : Told) : Prop := ∀ e ∈ o.after, Region.binds md e = true → g e.on = f e.on

theorem agree_on {o : Oper} {f g : Told} (i : Nat) (h : agree md o f g) (hb : (o.after.any fun e => Nat.beq e.on i && Region.binds md e) = true) : g i = f i := by
  obtain ⟨e, he, h2⟩ : ∃ e, e ∈ o.after ∧ (Nat.beq e.on i && Region.binds md e) = true := by simpa using Array.any_eq_true'.1 hb
  simp only [Bool.and_eq_true] at h2
  have h3 := h e he h2.2
  rwa [Nat.eq_of_beq_eq_true h2.1] at h3

/-- wherever it is done, and whatever else was done, it yields one of these -/
def Moves (P : Program) (md : Region.Mode) (ops : Array Oper) (C : Told → World → Prop) (o : Oper) (k : Nat) (V : Value → Prop) (f : Told) (a : Act) : Prop :=
  (Region.wanted o (yielded ops a.tmps) = true ∧ ∀ g w, agree md o f g → g k = none → C g w → movesUpon P (fun v w' => V v ∧ C (upd g k v) w') ((execOp a.eval o).run P w)) ∨
  (Region.wanted o (yielded ops a.tmps) = false ∧ V undef ∧ ∀ g w, agree md o f g → g k = none → C g w → C (upd g k undef) w)

def mOp (P : Program) (md : Region.Mode) (ops : Array Oper) (C : Told → World → Prop) (i : Nat) (K : Told → Act → Prop) (f : Told) (a : Act) : Prop :=
  match ops[i]? with
  | none => False
  | some o => ∃ V, Moves P md ops C o i V f a ∧ ∀ v, V v → K (upd f i v) (a.put o.dst v)
theorem mOp_mono {i : Nat} {f : Told} {a : Act} {K K' : Told → Act → Prop} (h : ∀ f a, K f a → K' f a) (hh : mOp P md ops C i K f a) : mOp P md ops C i K' f a := by
  unfold mOp at *
  split
  · rename_i ho; simp only [ho] at hh
  · rename_i o ho
    simp only [ho] at hh
    obtain ⟨V, h1, h2⟩ := hh
    exact ⟨V, h1, fun v hv => h _ _ (h2 v hv)⟩

def wpAnyM (P : Program) (md : Region.Mode) (ops : Array Oper) (C : Told → World → Prop) (Q : Told → Act → Prop) : Nat → Array Bool → Told → Act → Prop
  | 0, listed, f, a => Region.ready md ops listed = [] ∧ Q f a
  | fuel + 1, listed, f, a => Region.ready md ops listed ≠ [] ∧ ∀ i ∈ Region.ready md ops listed, mOp P md ops C i (wpAnyM P md ops C Q fuel (listed.setIfInBounds i true)) f a

theorem wpOp_of_mOp {i : Nat} {f : Told} {a : Act} {K : Told → Act → Prop} {K' : Act → World → Prop} {Q' : Exit → Act → World → Prop} {w : World} (hf : f i = none) (hC : C f w) (h : ∀ v a w', C (upd f i v) w' → K (upd f i v) a → K' a w') (hh : mOp P md ops C i K f a) : wpOp P ops Q' i K' a w := by
  unfold mOp at hh
  unfold wpOp
  split
  · rename_i ho; simp only [ho] at hh
  · rename_i o ho
    simp only [ho] at hh
    obtain ⟨V, h1, h2⟩ := hh
    rcases h1 with ⟨hw, h1⟩ | ⟨hw, hV, h1⟩
    · rw [if_pos hw]
      refine .inl ?_
      have h3 := h1 f w (fun _ _ _ => rfl) hf hC
      unfold Oper.wp
      generalize (execOp a.eval o).run P w = r at *
      cases r with
      | ok n w' =>
        cases n <;> simp only [movesUpon] at h3 <;> simp only [Oper.upon]
        case value u => exact h _ _ _ h3.2 (h2 _ h3.1)
        case skip => exact h _ _ _ h3.2 (h2 _ h3.1)
        case enter g args => exact h3.mono fun e w'' ⟨v, he, hv, hw''⟩ => by subst he; exact h _ _ _ hw'' (h2 _ hv)
      | halt x w' => simp only [movesUpon] at h3
    · rw [if_neg (by simp [hw])]
      exact h _ _ _ (h1 f w (fun _ _ _ => rfl) hf hC) (h2 _ hV)

theorem wpAny_of_moved {Q : Told → Act → Prop} {Q' : Exit → Act → World → Prop} (hQ : ∀ f a w, C f w → Q f a → Q' .normal a w) : ∀ (fuel : Nat) (listed : Array Bool) (f : Told) (a : Act) (w : World), (∀ i, listed.getD i true = false → f i = none) → C f w →
    wpAnyM P md ops C Q fuel listed f a → wpAny P md ops Q' fuel listed a w
  | 0, _, _, _, _, _, hw, h => ⟨h.1, hQ _ _ _ hw h.2⟩
  | fuel + 1, listed, f, _, _, hi, hw, h => ⟨fun h0 => absurd h0 h.1, fun i hr => by
      have h0 := (mem_ready.1 hr).1
      refine wpOp_of_mOp (hi i h0) hw (fun v a' w' hw' => wpAny_of_moved hQ fuel _ _ a' w' (fun j hj => ?_) hw') (h.2 i hr)
      by_cases e : j = i
      · subst e
        have hlt : j < listed.size := by
          rcases Nat.lt_or_ge j listed.size with h' | h'
          · exact h'
          · simp [Array.getElem?_eq_none h'] at h0
        simp [hlt] at hj
      · rw [getD_set_ne true (Ne.symm e)] at hj
        rw [upd_ne _ _ e]; exact hi j hj⟩

theorem Moves.mOp {i : Nat} {o : Oper} {V : Value → Prop} {f : Told} {a : Act} (hi : ops[i]? = some o) (hy : Moves P md ops C o i V f a) {K : Told → Act → Prop} (h : ∀ v, V v → K (upd f i v) (a.put o.dst v)) : mOp P md ops C i K f a := by
  unfold Ks.mOp
  simp only [hi]
  exact ⟨V, hy, h⟩
theorem Moves.of_same {o : Oper} {i : Nat} {V : Value → Prop} {f f' : Told} {a a' : Act} (hy : Moves P md ops C o i V f a) (hf : ∀ e ∈ o.after, Region.binds md e = true → f' e.on = f e.on) (he : execOp a'.eval o = execOp a.eval o)
    (hw : Region.wanted o (yielded ops a'.tmps) = Region.wanted o (yielded ops a.tmps)) : Moves P md ops C o i V f' a' := by
  unfold Moves at *
  rw [he, hw]
  rcases hy with ⟨h1, h2⟩ | ⟨h1, h2, h3⟩
  · exact .inl ⟨h1, fun g w ha => h2 g w fun e hm hb => (ha e hm hb).trans (hf e hm hb)⟩
  · exact .inr ⟨h1, h2, fun g w ha => h3 g w fun e hm hb => (ha e hm hb).trans (hf e hm hb)⟩
theorem mOp_put {i j : Nat} {oi oj : Oper} {u : Value} (hij : i ≠ j) (hj : ops[j]? = some oj) (hap : oi.apart ops oj = true)
    (hsi : ∀ cs b, oi.op ≠ .select cs b) (hsj : ∀ cs b, oj.op ≠ .select cs b) {K : Told → Act → Prop} {f : Told} {a : Act}
    (hai : ∀ e ∈ oi.after, Region.binds md e = true → e.on ≠ j) (haj : ∀ e ∈ oj.after, Region.binds md e = true → e.on ≠ i)
    (hy : Moves P md ops C oi i (fun v => v = u) f a) (h : mOp P md ops C j K (upd f i u) (a.put oi.dst u)) :
    mOp P md ops C j (fun f' a' => Moves P md ops C oi i (fun v => v = u) f' a' ∧ K (upd f' i u) (a'.put oi.dst u)) f a := by
  obtain ⟨h1, h2, h3⟩ := Oper.apart_spec hap
  have keep : ∀ v, Moves P md ops C oi i (fun v => v = u) (upd f j v) (a.put oj.dst v) := fun v =>
    hy.of_same (fun e he hb => upd_ne _ _ (hai e he hb)) (execOp_put oi hsi a oj.dst v h3) (wanted_put oi a oj.dst v h3)
  unfold mOp at *
  simp only [hj] at *
  obtain ⟨V, hV, hn⟩ := h
  refine ⟨V, ?_, fun v hv => ⟨keep v, ?_⟩⟩
  · exact hV.of_same (fun e he hb => (upd_ne _ _ (haj e he hb)).symm) (execOp_put oj hsj a oi.dst u h1).symm (wanted_put oj a oi.dst u h1).symm
  · rw [← Act.put_comm a u v h2, ← upd_comm f u v hij]
    exact hn v hv

theorem wpAnyM_first {Q : Told → Act → Prop} {i : Nat} {oi : Oper} {u : Value} (hi : ops[i]? = some oi) (hsel : ∀ (j : Nat) (o : Oper) cs b, ops[j]? = some o → o.op ≠ .select cs b) :
    ∀ (fuel : Nat) (listed : Array Bool) (f : Told) (a : Act),
      (∀ j oj, ops[j]? = some oj → j ≠ i → listed.getD j true = false → (∀ e ∈ oj.after, Region.binds md e = true → e.on ≠ i) → oi.apart ops oj = true) →
      i ∈ Region.ready md ops listed → Moves P md ops C oi i (fun v => v = u) f a →
      wpAnyM P md ops C Q fuel (listed.setIfInBounds i true) (upd f i u) (a.put oi.dst u) → wpAnyM P md ops C Q (fuel + 1) listed f a := by
  intro fuel
  induction fuel with
  | zero =>
    intro listed f a _ hr hy H
    refine ⟨fun h => (by rw [h] at hr; cases hr), fun j hj => ?_⟩
    by_cases hji : j = i
    · subst hji; exact hy.mOp hi (fun v hv => by subst hv; exact H)
    · have := ready_mono hj hji
      rw [H.1] at this
      cases this
  | succ fuel ih =>
    intro listed f a hfree hr hy H
    refine ⟨fun h => (by rw [h] at hr; cases hr), fun j hj => ?_⟩
    by_cases hji : j = i
    · subst hji; exact hy.mOp hi (fun v hv => by subst hv; exact H)
    · have h1 := H.2 j (ready_mono hj hji)
      obtain ⟨hjun, oj, hoj, hall⟩ := mem_ready.1 hj
      have both : ∀ {k : Nat} {b : Bool}, listed.getD k true = false → listed.getD k false = b → b = false := fun {k b} h0 hb => by
        rcases Nat.lt_or_ge k listed.size with h' | h'
        · simp [h'] at h0 hb; rw [h0] at hb; exact hb.symm
        · simp [Array.getElem?_eq_none h'] at h0
      have hnot : ∀ e ∈ oj.after, Region.binds md e = true → e.on ≠ i := fun e he hb heq => by
        have h1 := hall e he hb
        rw [heq] at h1
        exact Bool.noConfusion (both (mem_ready.1 hr).1 h1)
      have hnoti : ∀ e ∈ oi.after, Region.binds md e = true → e.on ≠ j := fun e he hb heq => by
        obtain ⟨_, o', ho', hall'⟩ := mem_ready.1 hr
        rw [hi] at ho'
        cases ho'
        have h1 := hall' e he hb
        rw [heq] at h1
        exact Bool.noConfusion (both hjun h1)
      have h2 := mOp_put (Ne.symm hji) hoj (hfree j oj hoj hji hjun hnot) (fun cs b => hsel i oi cs b hi) (fun cs b => hsel j oj cs b hoj) hnoti hnot hy h1
      have hfree' : ∀ k ok, ops[k]? = some ok → k ≠ i → (listed.setIfInBounds j true).getD k true = false →
          (∀ e ∈ ok.after, Region.binds md e = true → e.on ≠ i) → oi.apart ops ok = true := fun k ok hk hki hun hno => by
        refine hfree k ok hk hki ?_ hno
        by_cases hjk : j = k
        · subst hjk; exact hjun
        · rw [getD_set_ne true hjk] at hun; exact hun
      refine mOp_mono (fun f' a' h3 => ih (listed.setIfInBounds j true) f' a' hfree' (ready_mono hr (Ne.symm hji)) h3.1 ?_) h2
      rw [Array.setIfInBounds_comm _ _ hji]
      exact h3.2

theorem wp_region_mv {id : Nat} {Q : Exit → Act → World → Prop} {a : Act} {w : World} {l : List Oper} (C : Told → World → Prop) (hm : P.follows .mixedOrders = true) (hC : C (fun _ => none) w.drew)
    (h : wpAnyM P .any l.toArray C (fun f a' => ∀ w', C f w' → Q .normal a' w') l.length (Array.replicate l.length false) (fun _ => none) a) : (Code.region id l.toArray true).wp P Q a w :=
  wp_region_any hm (wpAny_of_moved (C := C) (Q := fun f a => ∀ w', C f w' → Q .normal a w') (fun f a w hw h => h w hw) _ _ (fun _ => none) _ _ (fun _ _ => rfl) hC (by simpa using h))
theorem mv_end {Q : Told → Act → Prop} {listed : Array Bool} {f : Told} {a : Act} (h0 : Region.ready md ops listed = []) (h : Q f a) : wpAnyM P md ops C Q 0 listed f a := ⟨h0, h⟩

/-- all worlds of the class, by a name -/
theorem moved_class (C : Told → World → Prop) : ∃ (S : Type) (F : S → World), (∀ f w, C f w → ∃ s, w = F s) ∧ ∀ s, ∃ f, C f (F s) :=
  ⟨{ x : Told × World // C x.1 x.2 }, fun s => s.1.2, fun f w h => ⟨⟨(f, w), h⟩, rfl⟩, fun s => ⟨s.1.1, s.2⟩⟩
/-- what is read, or reckoned, in all of them: taken first -/
theorem mv_read {Q : Told → Act → Prop} {fuel : Nat} {listed : Array Bool} {f : Told} {a : Act} (i : Nat) {o : Oper} {S : Type} {F : S → World} (hF : ∀ f w, C f w → ∃ s, w = F s) (hm : ∀ f w v, C f w → C (upd f i v) w)
    (ho : ops[i]? = some o) (hs : Region.noSelect ops = true) (hfree : Region.free md ops listed i = true) (hr : (Region.ready md ops listed).contains i = true)
    (h : ∀ K : Value → Act → Prop, (∀ v a, wpAnyM P md ops C Q fuel (listed.setIfInBounds i true) (upd f i v) a → K v a) → if Region.wanted o (yielded ops a.tmps) then ∃ v, (∀ s, Oper.quietUpon P (fun w' => w' = F s) (F s) v ((execOp a.eval o).run P (F s))) ∧ K v (a.put o.dst v) else K undef (a.put o.dst undef)) :
    wpAnyM P md ops C Q (fuel + 1) listed f a := by
  have h := h (fun v a => wpAnyM P md ops C Q fuel (listed.setIfInBounds i true) (upd f i v) a) fun _ _ h => h
  have key : ∀ u, Moves P md ops C o i (fun v => v = u) f a → wpAnyM P md ops C Q fuel (listed.setIfInBounds i true) (upd f i u) (a.put o.dst u) → wpAnyM P md ops C Q (fuel + 1) listed f a := fun u h1 h2 =>
    wpAnyM_first ho (Region.noSelect_spec hs) fuel listed f a (Region.free_spec ho hfree) (by simpa using hr) h1 h2
  split at h
  · rename_i hw
    obtain ⟨v, h1, h2⟩ := h
    refine key v (.inl ⟨hw, fun g w _ hn hC => ?_⟩) h2
    obtain ⟨s, rfl⟩ := hF g w hC
    have h3 := h1 s
    generalize (execOp a.eval o).run P (F s) = r at *
    cases r with
    | ok n w' =>
      cases n <;> simp only [Oper.quietUpon] at h3 <;> simp only [movesUpon]
      case value u => obtain ⟨rfl, rfl⟩ := h3; exact ⟨rfl, hm _ _ _ hC⟩
      case skip => obtain ⟨rfl, rfl⟩ := h3; exact ⟨rfl, hm _ _ _ hC⟩
      case enter g args =>
        obtain ⟨rfl, h4⟩ := h3
        exact h4.mono fun e w'' ⟨he, hw''⟩ => by subst hw''; exact ⟨v, he, rfl, hm _ _ _ hC⟩
    | halt x w' => simp only [Oper.quietUpon] at h3
  · rename_i hw
    exact key undef (.inr ⟨by simpa using hw, rfl, fun g w _ _ hC => hm _ _ _ hC⟩) h
/-- a call that yields one value, wherever it is done: taken first -/
theorem mv_call1 {Q : Told → Act → Prop} {fuel : Nat} {listed : Array Bool} {F : Told} {a : Act} (i : Nat) {o : Oper} (f : FuncId) {xs : Array Operand} {ts : Array TypeId}
    (ho : ops[i]? = some o) (hs : Region.noSelect ops = true) (hfree : Region.free md ops listed i = true) (hr : (Region.ready md ops listed).contains i = true) (hw : Region.wanted o (yielded ops a.tmps) = true)
    (hop : o.op = Op.call { callee := Callee.value (.func f), args := xs, argTypes := ts }) (eg : ∀ args w, (callFunc f args).run P w = .ok (.enter f args) w) {args : Array Value} (hargs : xs.toList.map a.eval = args.toList)
    {u : Value} (hc : ∀ g w, agree md o F g → g i = none → C g w → Calls P f args w fun e w' => e = .returned u ∧ C (upd g i u) w')
    (hK : wpAnyM P md ops C Q fuel (listed.setIfInBounds i true) (upd F i u) (a.put o.dst u)) : wpAnyM P md ops C Q (fuel + 1) listed F a := by
  refine wpAnyM_first (u := u) ho (Region.noSelect_spec hs) fuel listed F a (Region.free_spec ho hfree) (by simpa using hr) (.inl ⟨hw, fun g w h0 h1 h2 => ?_⟩) hK
  have hrun : (execOp a.eval o).run P w = .ok (.enter f args) w := by
    have h : xs.map a.eval = args := Array.toList_inj.1 (by simpa using hargs)
    simp [execOp, hop, resolve, Deferred.ofValue, Act.eval, invoke, eg, ← h]
  rw [hrun]
  exact (hc g w h0 h1 h2).mono fun e w' ⟨h1, h2⟩ => ⟨u, h1, rfl, h2⟩
/-- a call that alone may be done now -/
theorem mv_call {Q : Told → Act → Prop} {fuel : Nat} {listed : Array Bool} {F : Told} {a : Act} (i : Nat) {o : Oper} (f : FuncId) {xs : Array Operand} {ts : Array TypeId}
    (ho : ops[i]? = some o) (hr : Region.ready md ops listed = [i]) (hw : Region.wanted o (yielded ops a.tmps) = true)
    (hop : o.op = Op.call { callee := Callee.value (.func f), args := xs, argTypes := ts }) (eg : ∀ args w, (callFunc f args).run P w = .ok (.enter f args) w) {args : Array Value} (hargs : xs.toList.map a.eval = args.toList)
    (V : Value → Prop) (hc : ∀ g w, agree md o F g → g i = none → C g w → Calls P f args w fun e w' => ∃ v, e = .returned v ∧ V v ∧ C (upd g i v) w')
    (hK : ∀ v, V v → wpAnyM P md ops C Q fuel (listed.setIfInBounds i true) (upd F i v) (a.put o.dst v)) : wpAnyM P md ops C Q (fuel + 1) listed F a := by
  refine ⟨by rw [hr]; simp, fun j hj => ?_⟩
  rw [hr] at hj
  obtain rfl : j = i := by simpa using hj
  refine Moves.mOp (V := V) ho (.inl ⟨hw, fun g w h0 h1 h2 => ?_⟩) hK
  have hrun : (execOp a.eval o).run P w = .ok (.enter f args) w := by
    have h : xs.map a.eval = args := Array.toList_inj.1 (by simpa using hargs)
    simp [execOp, hop, resolve, Deferred.ofValue, Act.eval, invoke, eg, ← h]
  rw [hrun]
  exact hc g w h0 h1 h2
end
end Ks
/- A region that draws its order, some of whose steps turn what was there: an operation that alone may be done now; an append. Plain. No program is in sight. -/
namespace Ks
open Go Go.RowKit
set_option linter.unusedVariables false
section
variable {P : Program} {ops : Array Oper} {md : Region.Mode} {C : Told → World → Prop}
/-- an operation that alone may be done now -/
theorem mv_alone {Q : Told → Act → Prop} {fuel : Nat} {listed : Array Bool} {F : Told} {a : Act} (i : Nat) {o : Oper}
    (ho : ops[i]? = some o) (hr : Region.ready md ops listed = [i]) (hw : Region.wanted o (yielded ops a.tmps) = true) (V : Value → Prop)
    (hc : ∀ g w, agree md o F g → g i = none → C g w → ∀ D : Value → World → Prop, (∀ v w', V v → C (upd g i v) w' → D v w') → movesUpon P D ((execOp a.eval o).run P w))
    (hK : ∀ v, V v → wpAnyM P md ops C Q fuel (listed.setIfInBounds i true) (upd F i v) (a.put o.dst v)) : wpAnyM P md ops C Q (fuel + 1) listed F a := by
  refine ⟨by rw [hr]; simp, fun j hj => ?_⟩
  rw [hr] at hj
  obtain rfl : j = i := by simpa using hj
  exact Moves.mOp (V := V) ho (.inl ⟨hw, fun g w h0 h1 h2 => hc g w h0 h1 h2 _ fun v w' a b => ⟨a, b⟩⟩) hK
/-- an append that alone may be done now -/
theorem mv_append {α : Type} {E : Enc α} {Q : Told → Act → Prop} {fuel : Nat} {listed : Array Bool} {F : Told} {a : Act} (i : Nat) {o : Oper}
    (ho : ops[i]? = some o) (hr : Region.ready md ops listed = [i]) (hg : o.guard = none) (s x : Operand) (t : TypeId)
    (hop : o.op = .call { callee := .builtin .append, args := #[s, x], argTypes := #[t, t] }) {e : TypeId} {bytes : Nat} (T : ElemT P t e E.k bytes) (B : Nat)
    (v lv : Value) (L l : List α) (hs : a.eval s = v) (hx : a.eval x = lv) (b1 : L.length + l.length ≤ 140000000) (b2 : bytes ≤ 1000)
    (hrow : ∀ g w, agree md o F g → g i = none → C g w → Row E w B e v L ∧ Rd E w lv l ∧ B ≤ w.heap.size)
    (V : Value → Prop) (hV : ∀ g w v' w', agree md o F g → g i = none → C g w → Grew E w w' B e v v' (L ++ l) → V v' ∧ C (upd g i v') w')
    (hK : ∀ v', V v' → wpAnyM P md ops C Q fuel (listed.setIfInBounds i true) (upd F i v') (a.put o.dst v')) : wpAnyM P md ops C Q (fuel + 1) listed F a := by
  refine mv_alone i ho hr (by simp [Region.wanted, hg]) V (fun g w h0 h1 h2 D hD => ?_) hK
  obtain ⟨r1, r2, r3⟩ := hrow g w h0 h1 h2
  obtain ⟨v', w', hrun, r⟩ := run_append_row (P := P) (t := t) (ty := o.type) T w B v lv L l r1 r2 r3 b1 b2
  simp [execOp, hop, resolve, invoke, builtin, hs, hx, hrun, Result.andThen, movesUpon]
  exact hD _ _ (hV g w v' w' h0 h1 h2 r).1 (hV g w v' w' h0 h1 h2 r).2
end
/-- what is read, or reckoned, wherever it was not yet -/
theorem mv_readN {P : Program} {ops : Array Oper} {md : Region.Mode} {C : Told → World → Prop} {Q : Told → Act → Prop} {fuel : Nat} {listed : Array Bool} {f : Told} {a : Act} (i : Nat) {o : Oper} {S : Type} {F : S → World} (hF : ∀ f w, f i = none → C f w → ∃ s, w = F s) (hm : ∀ f w v, f i = none → C f w → C (upd f i v) w)
    (ho : ops[i]? = some o) (hs : Region.noSelect ops = true) (hfree : Region.free md ops listed i = true) (hr : (Region.ready md ops listed).contains i = true)
    (h : ∀ K : Value → Act → Prop, (∀ v a, wpAnyM P md ops C Q fuel (listed.setIfInBounds i true) (upd f i v) a → K v a) → if Region.wanted o (yielded ops a.tmps) then ∃ v, (∀ s, Oper.quietUpon P (fun w' => w' = F s) (F s) v ((execOp a.eval o).run P (F s))) ∧ K v (a.put o.dst v) else K undef (a.put o.dst undef)) :
    wpAnyM P md ops C Q (fuel + 1) listed f a := by
  have h := h (fun v a => wpAnyM P md ops C Q fuel (listed.setIfInBounds i true) (upd f i v) a) fun _ _ h => h
  have key : ∀ u, Moves P md ops C o i (fun v => v = u) f a → wpAnyM P md ops C Q fuel (listed.setIfInBounds i true) (upd f i u) (a.put o.dst u) → wpAnyM P md ops C Q (fuel + 1) listed f a := fun u h1 h2 =>
    wpAnyM_first ho (Region.noSelect_spec hs) fuel listed f a (Region.free_spec ho hfree) (by simpa using hr) h1 h2
  split at h
  · rename_i hw
    obtain ⟨v, h1, h2⟩ := h
    refine key v (.inl ⟨hw, fun g w _ hn hC => ?_⟩) h2
    obtain ⟨s, rfl⟩ := hF g w hn hC
    have h3 := h1 s
    generalize (execOp a.eval o).run P (F s) = r at *
    cases r with
    | ok n w' =>
      cases n <;> simp only [Oper.quietUpon] at h3 <;> simp only [movesUpon]
      case value u => obtain ⟨rfl, rfl⟩ := h3; exact ⟨rfl, hm _ _ _ hn hC⟩
      case skip => obtain ⟨rfl, rfl⟩ := h3; exact ⟨rfl, hm _ _ _ hn hC⟩
      case enter g args =>
        obtain ⟨rfl, h4⟩ := h3
        exact h4.mono fun e w'' ⟨he, hw''⟩ => by subst hw''; exact ⟨v, he, rfl, hm _ _ _ hn hC⟩
    | halt x w' => simp only [Oper.quietUpon] at h3
  · rename_i hw
    exact key undef (.inr ⟨by simpa using hw, rfl, fun g w _ hn hC => hm _ _ _ hn hC⟩) h
theorem moved_classN (C : Told → World → Prop) (i : Nat) : ∃ (S : Type) (F : S → World), (∀ f w, f i = none → C f w → ∃ s, w = F s) ∧ ∀ s, ∃ f, f i = none ∧ C f (F s) :=
  ⟨{ x : Told × World // x.1 i = none ∧ C x.1 x.2 }, fun s => s.1.2, fun f w h1 h => ⟨⟨(f, w), h1, h⟩, rfl⟩, fun s => ⟨s.1.1, s.2⟩⟩
theorem grown_trans {w w1 w2 : World} {r : Option Nat} (h : w.grownBy w1 r) (k : Below w1.heap.size w1 w2) : w.grownBy w2 r :=
  ⟨k.os.trans h.os, k.tape.trans h.tape, k.output.trans h.output, Nat.le_trans h.size k.size, fun j hj hr => (k.block j (Nat.lt_of_lt_of_le hj h.size)).trans (h.block j hj hr)⟩
theorem below_grown {w w1 w2 : World} {r : Option Nat} (h : Below w.heap.size w w1) (k : w1.grownBy w2 r) : w.grownBy w2 r :=
  ⟨k.os.trans h.os, k.tape.trans h.tape, k.output.trans h.output, Nat.le_trans h.size k.size, fun j hj hr => (k.block j (Nat.lt_of_lt_of_le hj h.size) hr).trans (h.block j hj)⟩
theorem grown_of {w w1 : World} (h : Below w.heap.size w w1) (r : Option Nat) : w.grownBy w1 r := below_grown h (World.grownBy.refl w1 r)
/-- a class of worlds behind one, where an own row grows: s is what is appended, u the row that it becomes -/
def Appends {α : Type} (E : Enc α) (B : Nat) (w0 : World) (T : TypeId) (v : Value) (L l : List α) (s u : Option Value) (w : World) : Prop :=
  match u with
  | none => Below w0.heap.size w0 w ∧ Row E w B T v L ∧ ∀ x, s = some x → Rd E w x l
  | some u => w0.grownBy w v.ownBlock ∧ (u.ownBlock = v.ownBlock ∨ ∀ b, u.ownBlock = some b → w0.heap.size ≤ b) ∧ Row E w B T u (L ++ l)
section
variable {α : Type} {E : Enc α} {B : Nat} {w0 w w' : World} {T : TypeId} {v : Value} {L l : List α} {s u : Option Value}
theorem Appends.start (h : Row E w0 B T v L) (hb : Below w0.heap.size w0 w) : Appends E B w0 T v L l none none w := ⟨hb, h.below hb, fun x hx => by cases hx⟩
theorem Appends.on (h : Appends E B w0 T v L l s u w) (hb : Below w.heap.size w w') : Appends E B w0 T v L l s u w' := by
  cases u with
  | none => exact ⟨h.1.trans (hb.mono h.1.size), h.2.1.below hb, fun x hx => (h.2.2 x hx).below hb⟩
  | some u => exact ⟨grown_trans h.1 hb, h.2.1, h.2.2.below hb⟩
theorem Appends.size (h : Appends E B w0 T v L l s u w) : w0.heap.size ≤ w.heap.size := by
  cases u with
  | none => exact h.1.size
  | some u => exact h.1.size
theorem Appends.grown (h : Appends E B w0 T v L l s u w) : w0.grownBy w v.ownBlock := by
  cases u with
  | none => exact grown_of h.1 _
  | some u => exact h.1
theorem Appends.cell {a : Addr} {x : Value} (h : Appends E B w0 T v L l s u w) (hc : w0.cell? a = some x) (hne : v.ownBlock ≠ some a.block) : w.cell? a = some x :=
  h.grown.cell hc fun e => hne e.symm
theorem Appends.block {b : Nat} {o : Obj} (h : Appends E B w0 T v L l s u w) (hc : w0.heap[b]? = some o) (hne : v.ownBlock ≠ some b) : w.heap[b]? = some o :=
  (h.grown.block b (lt_of_block hc) fun e => hne e.symm).trans hc
/-- what is appended, in a new block -/
theorem Appends.made (h : Appends E B w0 T v L l s u w) (cs : Array Value) (e : cs.toList = E.cs l) (fr : Nat × Nat := (0, 0)) : Appends E B w0 T v L l (some (.slice (some ⟨w.heap.size, 0, none⟩) l.length l.length)) u (w.alloc (.cells cs T fr)) := by
  have hb := alloc_below w (.cells cs T fr)
  cases u with
  | none => exact ⟨h.1.trans (hb.mono h.1.size), h.2.1.below hb, fun x hx => by cases hx; exact Rd.block (alloc_new w _) e⟩
  | some u => exact ⟨grown_trans h.1 hb, h.2.1, h.2.2.below hb⟩
theorem Appends.grew {v' : Value} (h : Appends E B w0 T v L l s none w) (hG : Grew E w w' B T v v' (L ++ l)) : Appends E B w0 T v L l s (some v') w' :=
  ⟨below_grown h.1 hG.2.1, hG.2.2.1.imp id fun hh b e => Nat.le_trans h.1.size (hh b e), hG.1⟩
theorem Appends.rows {lv : Value} (h : Appends E B w0 T v L l (some lv) none w) (hB : B ≤ w0.heap.size) : Row E w B T v L ∧ Rd E w lv l ∧ B ≤ w.heap.size := ⟨h.2.1, h.2.2 lv rfl, Nat.le_trans hB h.1.size⟩
end
/-- the same, where the row lies in a box: a: what was read of it, z: that it was stored -/
def AppStore {α : Type} (E : Enc α) (B : Nat) (w0 : World) (T : TypeId) (v : Value) (L l : List α) (bo : Nat) (a s u z : Option Value) (w : World) : Prop :=
  match z with
  | none => Appends E B w0 T v L l s u w ∧ (u ≠ none → a ≠ none ∧ s ≠ none)
  | some _ => (a ≠ none ∧ s ≠ none) ∧ ∃ u' w1, u = some u' ∧ Appends E B w0 T v L l s (some u') w1 ∧ w = w1.setCell ⟨bo, 0, none⟩ u'
section
variable {α : Type} {E : Enc α} {B bo : Nat} {w0 w w' : World} {T : TypeId} {v : Value} {L l : List α} {a s u z : Option Value}
theorem AppStore.start (h : Row E w0 B T v L) (hb : Below w0.heap.size w0 w) : AppStore E B w0 T v L l bo none none none none w := ⟨Appends.start h hb, fun h => absurd rfl h⟩
theorem AppStore.read (x : Value) (h : AppStore E B w0 T v L l bo a s u z w) : AppStore E B w0 T v L l bo (some x) s u z w := by
  cases z with
  | none => exact ⟨h.1, fun hu => ⟨(fun e => by cases e), (h.2 hu).2⟩⟩
  | some z => exact ⟨⟨(fun e => by cases e), h.1.2⟩, h.2⟩
/-- what was there stands, but for the row and its box -/
theorem AppStore.cell {ad : Addr} {x : Value} (h : AppStore E B w0 T v L l bo a s u z w) (hc : w0.cell? ad = some x) (hne : v.ownBlock ≠ some ad.block) (hbo : ad.block ≠ bo) : w.cell? ad = some x := by
  cases z with
  | none => exact h.1.cell hc hne
  | some z =>
    obtain ⟨_, u', w1, _, h1, rfl⟩ := h
    have hfar : (w1.setCell ⟨bo, 0, none⟩ u').cell? ad = w1.cell? ad := World.cell?_of_block (Below.heap_setCell _ _ _ _ hbo)
    rw [hfar]
    exact h1.cell hc hne
/-- the box, ahead of its reading -/
theorem AppStore.box {x : Value} (h : AppStore E B w0 T v L l bo none s u z w) (hc : w0.cell? ⟨bo, 0, none⟩ = some x) (hne : v.ownBlock ≠ some bo) : w.cell? ⟨bo, 0, none⟩ = some x := by
  cases z with
  | none => exact h.1.cell hc hne
  | some z => exact absurd rfl h.1.1
theorem AppStore.unread (h : AppStore E B w0 T v L l bo a s u none w) : Appends E B w0 T v L l s u w := h.1
theorem AppStore.early (h : AppStore E B w0 T v L l bo a none u z w) : u = none ∧ z = none := by
  cases z with
  | none =>
    cases u with
    | none => exact ⟨rfl, rfl⟩
    | some u => exact absurd rfl (h.2 (fun e => by cases e)).2
  | some z => exact absurd rfl h.1.2
theorem AppStore.mid (h : AppStore E B w0 T v L l bo a s none z w) : z = none := by
  cases z with
  | none => rfl
  | some z => obtain ⟨_, u', w1, e, _⟩ := h; cases e
theorem AppStore.made (h : AppStore E B w0 T v L l bo a none u z w) (cs : Array Value) (e : cs.toList = E.cs l) (fr : Nat × Nat := (0, 0)) : AppStore E B w0 T v L l bo a (some (.slice (some ⟨w.heap.size, 0, none⟩) l.length l.length)) u z (w.alloc (.cells cs T fr)) := by
  obtain ⟨rfl, rfl⟩ := h.early
  exact ⟨h.1.made cs e fr, fun h => absurd rfl h⟩
theorem AppStore.rows {lv : Value} (h : AppStore E B w0 T v L l bo a (some lv) none z w) (hB : B ≤ w0.heap.size) : Row E w B T v L ∧ Rd E w lv l ∧ B ≤ w.heap.size := by
  obtain rfl := h.mid
  exact h.1.rows hB
theorem AppStore.grew {v' : Value} {x y : Value} (h : AppStore E B w0 T v L l bo (some x) (some y) none z w) (hG : Grew E w w' B T v v' (L ++ l)) : AppStore E B w0 T v L l bo (some x) (some y) (some v') z w' := by
  obtain rfl := h.mid
  exact ⟨h.1.grew hG, fun _ => ⟨(fun e => by cases e), (fun e => by cases e)⟩⟩
theorem AppStore.stored {v' y : Value} (h : AppStore E B w0 T v L l bo a s (some v') none w) : AppStore E B w0 T v L l bo a s (some v') (some y) (w.setCell ⟨bo, 0, none⟩ v') :=
  ⟨h.2 (fun e => by cases e), v', w, rfl, h.1, rfl⟩
theorem AppStore.done {u' y : Value} (h : AppStore E B w0 T v L l bo a s (some u') (some y) w) : ∃ w1, w0.grownBy w1 v.ownBlock ∧ Row E w1 B T u' (L ++ l) ∧ w = w1.setCell ⟨bo, 0, none⟩ u' := by
  obtain ⟨_, u2, w1, e, h1, rfl⟩ := h
  cases e
  exact ⟨w1, h1.1, h1.2.2, rfl⟩
theorem Appends.frozen {ad : Addr} {x : Value} (h : Appends E B w0 T v L l s u w) (hc : w0.cell? ad = some x) (hf : w0.frozen? ad = false) (hne : v.ownBlock ≠ some ad.block) : w.frozen? ad = false := by
  rw [World.frozen?_of_block (h.grown.block ad.block (World.block_lt_of_cell? _ _ hc) fun e => hne e.symm)]
  exact hf
end
end Ks
/- A drawn region walked by its class: a struct's store onto a block known whole; a struct and another value returned. Plain. No program is in sight. -/
namespace Ks
open Go Go.RowKit
set_option linter.unusedVariables false
section
variable {P : Program} {ops : Array Oper} {md : Region.Mode} {C : Told → World → Prop}
theorem mv_store_blk {Q : Told → Act → Prop} {fuel : Nat} {listed : Array Bool} {F : Told} {a : Act} (i : Nat) {o : Oper}
    (ho : ops[i]? = some o) (hr : Region.ready md ops listed = [i]) (hg : o.guard = none) (ty : TypeId) (x y : Operand) (hop : o.op = .store ty x y) (b off : Nat) (D : Array Value)
    (hx : a.eval x = .pointer (some ⟨b, off, none⟩)) (hy : a.eval y = .agg D) (hi : (P.info? ty).map (·.size) = some D.size) (h1 : D.all (·.oneCell') = true)
    (hc : ∀ g w, agree md o F g → g i = none → C g w → ∃ E t, w.heap[b]? = some (.cells E t (0, 0)) ∧ off + D.size ≤ E.size ∧ C (upd g i undef) (w.setRow b (splice E off D)))
    (hK : wpAnyM P md ops C Q fuel (listed.setIfInBounds i true) (upd F i undef) (a.put o.dst undef)) : wpAnyM P md ops C Q (fuel + 1) listed F a := by
  refine mv_alone i ho hr (by simp [Region.wanted, hg]) (fun v => v = undef) (fun g w h0 h2 h3 D' hD => ?_) (fun v e => e ▸ hK)
  obtain ⟨E, t, hb, hfit, hC⟩ := hc g w h0 h2 h3
  have hth : w.there b off D.size := fun j hj => ⟨by rw [cell_of_row w b (off + j) E t (0, 0) hb, Array.getElem?_eq_getElem (by omega)]; rfl, frozen_of_row w b _ _ _ hb⟩
  have hrun := run_storeAt_mid (P := P) w b off ty D hth hi h1
  rw [setCells_row b t D.toList off w E hb (by simp; omega), Array.toArray_toList] at hrun
  simp [execOp, hop, hx, hy, hrun, Result.andThen, movesUpon]
  exact hD _ _ rfl hC
end
/-- worlds where a struct is returned: the result's block has what it had, or what was stored -/
structure RetCls (B : Nat) (w0 : World) (bx : Nat) (ox : Obj) (bo : Nat) (oo : Obj) (bz : Nat) (C E : Array Value) (t : TypeId) (r : Option Value) (w : World) : Prop where
  b : Below B w0 w
  x : w.heap[bx]? = some ox
  o : w.heap[bo]? = some oo
  z : w.heap[bz]? = some (.cells (match r with | none => C | some _ => E) t (0, 0))
section
variable {B : Nat} {w0 w : World} {bx bo bz : Nat} {ox oo : Obj} {C E : Array Value} {t : TypeId}
theorem RetCls.start (hb : Below B w0 w) (hB : B ≤ w.heap.size) (hx : w.heap[bx]? = some ox) (ho : w.heap[bo]? = some oo) (hz : w.heap[bz]? = some (.cells C t (0, 0))) : RetCls B w0 bx ox bo oo bz C E t none w.drew :=
  ⟨hb.trans ((drew_below w).mono hB), ((drew_below w).block _ (lt_of_block hx)).trans hx, ((drew_below w).block _ (lt_of_block ho)).trans ho, ((drew_below w).block _ (lt_of_block hz)).trans hz⟩
theorem RetCls.stored (h : RetCls B w0 bx ox bo oo bz C E t none w) (h1 : bx ≠ bz) (h2 : bo ≠ bz) (h3 : B ≤ bz) : RetCls B w0 bx ox bo oo bz C E t (some undef) (w.setRow bz E) :=
  ⟨below_setRow h.b h3 _, (setRow_other _ _ _ _ h1).trans h.x, (setRow_other _ _ _ _ h2).trans h.o, setRow_heap w _ _ _ _ _ h.z⟩
end
end Ks
