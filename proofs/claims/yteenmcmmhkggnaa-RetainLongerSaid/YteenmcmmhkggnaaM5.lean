/- Texts that the claim rests on, part 5: BookNew, TextPlain, OctetNoughts, BookLow, Open, FrameRec. -/
import Derived.Lib.Repeat
import Derived.Test.YteenmcmmhkggnaaProg
import Derived.Deep.Slices
import Derived.Test.YteenmcmmhkggnaaM4
/- A new book, and the book of records: of the program. -/
set_option maxRecDepth 100000
namespace Ks
open Go Go.RowKit
set_option linter.unusedVariables false
def foldB (first : Int) (l : List RecT) : BookT := l.foldl applyB (newB first)
theorem foldB_take (first : Int) (l : List RecT) (k : Nat) (x : RecT) (h : l[k]? = some x) : foldB first (l.take (k + 1)) = applyB (foldB first (l.take k)) x := by
  rw [foldB, List.take_add_one, h, List.foldl_append]; rfl
theorem apply_holds (b : BookT) (r : RecT) : (applyB b r).holds.length ≤ b.holds.length + 1 := by
  unfold applyB
  split
  · unfold putB
    split
    · simp
    · split
      · simp
      · split
        · exact length_put_le _ _ _
        · split
          · show (delM b.holds r.name).length ≤ _
            have : ∀ m : List (ByteArray × Int), (delM m r.name).length ≤ m.length := fun m => by
              induction m with
              | nil => exact Nat.le_refl _
              | cons p m ih => rw [delM]; split <;> simp; omega
            have := this b.holds
            omega
          · simp
  · omega
theorem fold_holds (first : Int) (l : List RecT) : (foldB first l).holds.length ≤ l.length := by
  have key : ∀ (l : List RecT) (b : BookT), (l.foldl applyB b).holds.length ≤ b.holds.length + l.length := by
    intro l
    induction l with
    | nil => intro b; simp
    | cons x l ih =>
      intro b
      have h1 := ih (applyB b x)
      have h2 := apply_holds b x
      rw [List.foldl_cons, List.length_cons]
      omega
  have := key l (newB first)
  simpa [newB, foldB] using this
end Ks
namespace Go.Proofs.Yteenmcmmhkggnaa
open Go.RowKit Ks Go.Maps
set_option linter.unusedVariables false
set_option linter.unusedSimpArgs false
theorem bnew_err (e : Int) (w : World) (h : e < 0 ∨ (¬ e < 0 ∧ 4294967295 < e)) : Calls Try.prog 5 #[.int .i64 e] w fun r w' => r = .returned (.tuple #[.pointer none, .int .i64 2]) ∧ w' = w := by
  rcases h with h | ⟨h, h2⟩
  all_goals
    go_enter Try.func5, Try.ntmps5
    go_wp2
    go_ret2
    exact ⟨rfl, rfl⟩
set_option maxHeartbeats 4000000 in
theorem bnew_any (e : Int) (w : World) (h0 : ¬ e < 0) (h1 : ¬ 4294967295 < e) : Calls Try.prog 5 #[.int .i64 e] w fun r w' => ∃ n c mu mh mg, r = .returned (.tuple #[.pointer (some ⟨n, 0, none⟩), .int .i64 0]) ∧ BookAt w' n c mu mh mg (newB e) ∧ Five n c mu mh mg ∧ Below w.heap.size w w' ∧ ∀ k, FB n c mu mh mg k → w.heap.size ≤ k := by
  refine calls_by fun R HR => ?_
  have HC := Lib.hid (cnew0 w)
  obtain ⟨W1, hW1⟩ : ∃ W, w.alloc (.cells #[.bool true, .int .i64 0] 57) = W := ⟨_, rfl⟩
  have b1 : Below w.heap.size w W1 := by rw [← hW1]; exact alloc_below _ _
  have n1 : W1.heap[w.heap.size]? = some (.cells #[.bool true, .int .i64 0] 57 (0, 0)) := by rw [← hW1]; exact alloc_new _ _
  have s1 : W1.heap.size = w.heap.size + 1 := by rw [← hW1]; simp
  obtain ⟨W2, hW2⟩ : ∃ W, W1.alloc (.map #[] 0) = W := ⟨_, rfl⟩
  have b2 : Below W1.heap.size W1 W2 := by rw [← hW2]; exact alloc_below _ _
  have n2 : MapAt iiKV W2 W1.heap.size [] := by rw [← hW2]; exact MapAt.made _ _
  have s2 : W2.heap.size = W1.heap.size + 1 := by rw [← hW2]; simp
  obtain ⟨W3, hW3⟩ : ∃ W, W2.alloc (.map #[] 0) = W := ⟨_, rfl⟩
  have b3 : Below W2.heap.size W2 W3 := by rw [← hW3]; exact alloc_below _ _
  have n3 : MapAt siKV W3 W2.heap.size [] := by rw [← hW3]; exact MapAt.made _ _
  have s3 : W3.heap.size = W2.heap.size + 1 := by rw [← hW3]; simp
  obtain ⟨W4, hW4⟩ : ∃ W, W3.alloc (.map #[] 0) = W := ⟨_, rfl⟩
  have b4 : Below W3.heap.size W3 W4 := by rw [← hW4]; exact alloc_below _ _
  have n4 : MapAt ibKV W4 W3.heap.size [] := by rw [← hW4]; exact MapAt.made _ _
  have s4 : W4.heap.size = W3.heap.size + 1 := by rw [← hW4]; simp
  have B2 := b1.trans (b2.mono b1.size)
  have B3 := B2.trans (b3.mono B2.size)
  have B4 := B3.trans (b4.mono B3.size)
  have H := Lib.hid (And.intro B4 (And.intro (blk_on b4 (blk_on b3 (blk_on b2 n1))) (And.intro ((n2.below b3).below b4) (And.intro (n3.below b4) (And.intro n4 (And.intro s1 (And.intro s2 (And.intro s3 s4))))))))
  clear b1 n1 s1 b2 n2 s2 b3 n3 s3 b4 n4 s4 B2 B3 B4
  have hmm := @run_makeMap Try.prog
  go_enter Try.func5, Try.ntmps5
  go_wp2_with fail
  refine HC.out.mono ?_
  rintro en v1 ⟨rfl, hw⟩
  rw [hw, hW1]
  clear hw
  go_wp2
  all_goals
    have HN := Lib.hid (alloc_below W4 (.cells #[.pointer (some ⟨w.heap.size, 0, none⟩), .int .i64 e, .int .i64 e, .map (some W1.heap.size), .map (some W2.heap.size), .map (some W3.heap.size)] 42))
    exact HR.out _ _ ⟨W4.heap.size, w.heap.size, W1.heap.size, W2.heap.size, W3.heap.size, rfl, ⟨alloc_new _ _, blk_on HN.out H.out.2.1, H.out.2.2.1.below HN.out, H.out.2.2.2.1.below HN.out, H.out.2.2.2.2.1.below HN.out⟩,
      (by have := H.out.2.2.2.2.2; unfold Five; omega), H.out.1.trans (HN.out.mono H.out.1.size), fun k hk => by have := H.out.2.2.2.2.2; unfold FB at hk; omega⟩
end Go.Proofs.Yteenmcmmhkggnaa
/- Texts with their lengths, texts cut off, noughts: plain. -/
namespace Ks
open Go Go.RowKit
set_option linter.unusedVariables false

theorem text_mask (n : Nat) (h : n < 4294967296) : bits .and .i64 (n : Int) 4294967295 = (n : Int) := by
  have := bits_mask .i64 63 (by decide) (fun n h0 h1 => by rw [IntKind.wrap_i64]; omega) 32 (by decide) (n : Int) (by omega) (by omega)
  rw [show ((2 : Int) ^ 32 - 1) = 4294967295 from by decide] at this
  rw [this]; omega

theorem putS_four (n : Nat) (h : n < 4294967296) : putS n 4 = ⟨(putL 4 n).toArray⟩ := by
  have hp : putOk n 4 = true := by
    simp only [putOk, decide_eq_true_eq]
    refine ⟨by omega, by omega, by omega, fun _ => ?_⟩
    have : (2 : Nat) ^ (8 * (4 : Int).toNat) = 4294967296 := by decide
    rw [this]
    exact Nat.div_eq_of_lt (by omega)
  rw [putS, if_pos hp]; rfl

/-- a text with its length ahead -/
def textS (s : ByteArray) : ByteArray := ⟨(putL 4 s.size ++ s.data.toList).toArray⟩

theorem textS_size (s : ByteArray) : (textS s).size = 4 + s.size := by
  show (putL 4 s.size ++ s.data.toList).length = _
  rw [List.length_append, putL_length, data_length]

theorem textS_eq (s : ByteArray) (h : s.size < 4294967296) : putS s.size 4 ++ s = textS s := by
  rw [putS_four _ h]
  obtain ⟨⟨l⟩⟩ := s
  exact ByteArray.mk_append_mk _ _

theorem putS_size (n w : Int) : (putS n w).size ≤ 8 := by
  unfold putS
  split
  · rename_i h
    have := putOk_width h
    show (putL _ _).length ≤ 8
    rw [putL_length]; omega
  · show (0 : Nat) ≤ 8
    omega

/-- the number that a text begins with; whether as many bytes are there; the text, and the rest -/
def cutN (s : ByteArray) : Nat := getN (s.data.toList.take 4)
def cutOk (s : ByteArray) : Bool := decide (4 ≤ s.size ∧ cutN s ≤ s.size - 4)
def cutA (s : ByteArray) : ByteArray := if cutOk s then s.extract 4 (4 + cutN s) else ⟨#[]⟩
def cutB (s : ByteArray) : ByteArray := if cutOk s then s.extract (4 + cutN s) s.size else ⟨#[]⟩
def cutE (s : ByteArray) : Int := if cutOk s then 0 else 3

theorem getV_four (s : ByteArray) (h : 4 ≤ s.size) : getV (s.extract 0 4) = (cutN s : Int) ∧ cutN s < 4294967296 := by
  obtain ⟨⟨l⟩⟩ := s
  have hl : 4 ≤ l.length := h
  have he : (ByteArray.mk l.toArray).extract 0 4 = ⟨(l.take 4).toArray⟩ := by rw [ByteArray.extract_mk]; simp
  have hlt := getN_lt (l.take 4)
  have h4 : (l.take 4).length = 4 := by rw [List.length_take]; omega
  rw [h4, show (256 : Nat) ^ 4 = 4294967296 by decide] at hlt
  have ho : getOk (l.take 4) = true := by
    simp only [getOk, decide_eq_true_eq]
    omega
  refine ⟨?_, hlt⟩
  rw [he, getV, if_pos ho]
  rfl

theorem extract_list (s : ByteArray) (a b : Nat) : s.extract a b = ⟨((s.data.toList.drop a).take (b - a)).toArray⟩ := by
  obtain ⟨⟨l⟩⟩ := s
  exact ByteArray.extract_mk l a b

theorem extract_twice (s : ByteArray) (a b c d : Nat) (h : a + d ≤ b) : (s.extract a b).extract c d = s.extract (a + c) (a + d) := by
  obtain ⟨⟨l⟩⟩ := s
  rw [ByteArray.extract_mk, ByteArray.extract_mk, ByteArray.extract_mk]
  congr 2
  rw [List.drop_take, List.take_take, List.drop_drop]
  congr 1
  omega

/-- noughts -/
def zerosS (n : Int) : ByteArray := ⟨(List.replicate n.toNat (0 : UInt8)).toArray⟩
def fillOk (s : ByteArray) (n : Int) : Bool := decide (s.size ≤ n ∧ n ≤ 65536)
def fillS (s : ByteArray) (n : Int) : ByteArray := if fillOk s n then s ++ zerosS (n - s.size) else ⟨#[]⟩
def fillE (s : ByteArray) (n : Int) : Int := if fillOk s n then 0 else 2

theorem repeat_zero (n : Nat) : Lib.repeatL [(0 : UInt8)] n = List.replicate n 0 := by
  induction n with
  | zero => rfl
  | succ n ih => simp [Lib.repeatL, ih, List.replicate_succ]

theorem zerosS_size (m : Nat) : (zerosS m).size = m := by
  show (List.replicate _ _).length = _
  simp
theorem repeat_zeros (m : Nat) : (⟨(Lib.repeatL (ByteArray.mk #[0]).data.toList m).toArray⟩ : ByteArray) = zerosS m := by
  show (⟨(Lib.repeatL [(0 : UInt8)] m).toArray⟩ : ByteArray) = ⟨(List.replicate m (0 : UInt8)).toArray⟩
  rw [repeat_zero]

end Ks
/- What the reference's Noughts answers. -/
namespace Go.Proofs.Yteenmcmmhkggnaa
open Go.RowKit Ks
set_option linter.unusedVariables false

theorem Try.infoByteN : (Try.prog.info? 5).map (fun i => (i.zero, i.size, i.bytes)) = some (some (.int .u8 0), 1, 1) := by kernel_rfl

set_option maxHeartbeats 400000 in
theorem noughts_any (n : Int) (w : World) (hn : n ≤ 281474976710656) :
    Calls Try.prog 19 #[.int .i64 n] w fun e w' => e = .returned (.string (zerosS n)) ∧ Below w.heap.size w w' := by
  refine calls_by fun R HR => ?_
  by_cases h1 : n < 1
  · go_enter Try.func19, Try.ntmps19
    go_wp2
    refine HR.out _ _ ⟨?_, Below.refl _ _⟩
    rw [zerosS, show n.toNat = 0 by omega]
    rfl
  · obtain ⟨n, rfl⟩ := Int.eq_ofNat_of_zero_le (show 0 ≤ n by omega)
    have hmk := fun w => run_make_row' (P := Try.prog) 58 5 (.int .u8 0) 1 Try.underlying58 Try.infoByteN rfl .i64 .i64 n (by omega) (by omega) w
    have hconv := conv_row (P := Try.prog) (src := 58) (dst := 9) (cap := n) (List.replicate n 0) Try.underlying58 Try.underlying5 Try.underlying9 (World.rowIs_made w (.int .u8 0) n 5) (by simp) (by simp)
    go_enter Try.func19, Try.ntmps19
    go_wp2
    refine HR.out _ _ ⟨?_, (Below.refl _ _).alloc (Nat.le_refl _) _⟩
    rw [zerosS, show ((n : Int)).toNat = n by omega]
    simp

end Go.Proofs.Yteenmcmmhkggnaa
/- Records replayed, few records, the example: of the program and of the law. -/
set_option maxRecDepth 100000
namespace Go.Proofs.Yteenmcmmhkggnaa
open Go.RowKit Ks Go.Maps
set_option linter.unusedVariables false
set_option linter.unusedSimpArgs false
set_option maxRecDepth 100000 in
set_option maxHeartbeats 4000000 in
theorem bmay_no {v : Value} (r : RecT) (w : World) (h : BookNo w v) : Calls Try.prog 12 #[v, recV r] w fun e w' => e = .returned (.int .i64 1) ∧ Below w.heap.size w w' := by
  refine calls_by fun R HR => ?_
  have HD := Lib.hid h
  have HT := Lib.hid (fun w h => bthere_no (v := v) w h)
  obtain ⟨kd, ep, tm, ct, tg, un, rt, nm⟩ := r
  clear h
  have H1 := Lib.hid (And.intro (Below.refl w.heap.size w) (HD.out))
  obtain ⟨W1, hW1⟩ : ∃ W1, w.alloc (.cells #[.int .i64 kd, .int .i64 ep, .int .i64 tm, .int .i64 ct, .int .i64 tg, .int .i64 un, .string rt, .string nm] 30) = W1 := ⟨_, rfl⟩
  have hbW1 : Below w.heap.size w W1 := by rw [← hW1]; exact alloc_below w _
  have kW1 : W1.heap[w.heap.size]? = some (.cells #[.int .i64 kd, .int .i64 ep, .int .i64 tm, .int .i64 ct, .int .i64 tg, .int .i64 un, .string rt, .string nm] 30 (0, 0)) := by rw [← hW1]; exact alloc_new w _
  have H2 := Lib.hid (And.intro (H1.out.1.trans (hbW1.mono H1.out.1.size)) (And.intro (H1.out.2.below hbW1) (kW1)))
  clear hbW1 kW1
  obtain ⟨⟨r0, r1, r2, r3, r4, r5, r6, r7⟩, -⟩ := blkR H2.out.2.2
  go_enter Try.func12, Try.ntmps12
  go_wp2_with fail
  refine (HT.out _ H2.out.2.1).mono ?_
  rintro en y0 ⟨rfl, hw⟩
  rw [hw]
  clear hw
  go_wp2
  exact HR.out _ _ ⟨rfl, H2.out.1⟩
set_option maxRecDepth 100000 in
set_option maxHeartbeats 4000000 in
theorem bapply_no {v : Value} (r : RecT) (w : World) (h : BookNo w v) : Calls Try.prog 11 #[v, recV r] w fun e w' => e = .returned (.int .i64 1) ∧ Below w.heap.size w w' := by
  refine calls_by fun R HR => ?_
  have HD := Lib.hid h
  have HT := Lib.hid (fun w h => bmay_no (v := v) r w h)
  obtain ⟨kd, ep, tm, ct, tg, un, rt, nm⟩ := r
  clear h
  have H1 := Lib.hid (And.intro (Below.refl w.heap.size w) (HD.out))
  obtain ⟨W1, hW1⟩ : ∃ W1, w.alloc (.cells #[.int .i64 kd, .int .i64 ep, .int .i64 tm, .int .i64 ct, .int .i64 tg, .int .i64 un, .string rt, .string nm] 30) = W1 := ⟨_, rfl⟩
  have hbW1 : Below w.heap.size w W1 := by rw [← hW1]; exact alloc_below w _
  have kW1 : W1.heap[w.heap.size]? = some (.cells #[.int .i64 kd, .int .i64 ep, .int .i64 tm, .int .i64 ct, .int .i64 tg, .int .i64 un, .string rt, .string nm] 30 (0, 0)) := by rw [← hW1]; exact alloc_new w _
  have H2 := Lib.hid (And.intro (H1.out.1.trans (hbW1.mono H1.out.1.size)) (And.intro (H1.out.2.below hbW1) (kW1)))
  clear hbW1 kW1
  obtain ⟨⟨r0, r1, r2, r3, r4, r5, r6, r7⟩, -⟩ := blkR H2.out.2.2
  go_enter Try.func11, Try.ntmps11
  go_wp2_with fail
  refine (HT.out _ H2.out.2.1).mono ?_
  rintro en v1 ⟨rfl, hb⟩
  have H3 := Lib.hid (And.intro (H2.out.1.trans (hb.mono H2.out.1.size)) (And.intro (H2.out.2.1.below hb) (blk_on hb H2.out.2.2)))
  clear hb
  go_wp2
  exact HR.out _ _ ⟨rfl, H3.out.1⟩
set_option maxRecDepth 100000 in
set_option maxHeartbeats 4000000 in
theorem breplay_any (first : Int) (lv : Value) (l : List RecT) (w : World) (hl : Rd recE w lv l) (h0 : ¬ first < 0) (h1 : ¬ 4294967295 < first) (hlen : l.length ≤ 1000) (hfit : ∀ x ∈ l, fitRec x)
    (hok : ∀ k x, l[k]? = some x → mayE (foldB first (l.take k)) x = 0) :
    Calls Try.prog 18 #[.int .i64 first, lv] w fun e w' => ∃ n c mu mh mg, e = .returned (.tuple #[.pointer (some ⟨n, 0, none⟩), .int .i64 l.length, .int .i64 0]) ∧ BookAt w' n c mu mh mg (foldB first l) ∧ Five n c mu mh mg ∧ Below w.heap.size w w' := by
  refine calls_by fun R HR => ?_
  have HL := Lib.hid (And.intro hl (And.intro hfit hok))
  have HN := Lib.hid (bnew_any first w h0 h1)
  obtain ⟨a, cap, rfl, -⟩ := hl.shape
  have hli : (l.length : Int) ≤ 1000 := by omega
  have HFh := Lib.hid (fun k => fold_holds first (l.take k))
  clear hl hfit hok h0 h1
  go_enter Try.func18, Try.ntmps18
  go_wp2_with fail
  refine HN.out.mono ?_
  rintro en v1 ⟨n, c, mu, mh, mg, rfl, hs, h5, hb, hk⟩
  have H1 := Lib.hid (And.intro hb (And.intro hs (And.intro h5 hk)))
  clear hs h5 hb hk
  go_wp2_with fail
  go_loopw [22] (fun i wx => ∃ (k : Nat), k ≤ l.length ∧ i = .int .i64 k ∧ Hid (BookAt wx n c mu mh mg (foldB first (l.take k)) ∧ Below w.heap.size w wx)) (fun i _ => l.length - (intOf i).toNat)
  case atStart => exact ⟨0, Nat.zero_le _, rfl, Lib.hid ⟨H1.out.2.1, H1.out.1⟩⟩
  case round =>
    obtain ⟨k, hk, rfl, hN⟩ := hrel
    by_cases hlt : k < l.length
    · have hki : (k : Int) < (l.length : Int) := by omega
      obtain ⟨x, hx⟩ : ∃ x, l[k]? = some x := ⟨_, List.getElem?_eq_getElem hlt⟩
      have HX := Lib.hid (foldB_take first l k x hx)
      have hm0 := HL.out.2.2 k x hx
      have HFx := Lib.hid (HL.out.2.1 x (List.mem_of_getElem? hx))
      have HAp := Lib.hid (fun w h => bapply_any (b := foldB first (l.take k)) x w h H1.out.2.2.1 HFx.out (by have := HFh.out k; rw [List.length_take] at this; omega))
      rw [hm0] at HAp
      obtain ⟨b, o, ha, hb0, dd⟩ := (HL.out.1.below hN.out.2).at k x hx
      cases ha
      generalize applyB (foldB first (l.take k)) x = AB at *
      generalize foldB first (l.take k) = FBk at *
      obtain ⟨kd, ep, tm, ct, tg, un, rt, nm⟩ := x
      have d0 : wr.cell? ⟨b, o + k * 8, none⟩ = some (.int .i64 kd) := dd 0 _ rfl
      have d1 : wr.cell? ⟨b, o + k * 8 + 1, none⟩ = some (.int .i64 ep) := dd 1 _ rfl
      have d2 : wr.cell? ⟨b, o + k * 8 + 2, none⟩ = some (.int .i64 tm) := dd 2 _ rfl
      have d3 : wr.cell? ⟨b, o + k * 8 + 3, none⟩ = some (.int .i64 ct) := dd 3 _ rfl
      have d4 : wr.cell? ⟨b, o + k * 8 + 4, none⟩ = some (.int .i64 tg) := dd 4 _ rfl
      have d5 : wr.cell? ⟨b, o + k * 8 + 5, none⟩ = some (.int .i64 un) := dd 5 _ rfl
      have d6 : wr.cell? ⟨b, o + k * 8 + 6, none⟩ = some (.string rt) := dd 6 _ rfl
      have d7 : wr.cell? ⟨b, o + k * 8 + 7, none⟩ = some (.string nm) := dd 7 _ rfl
      clear dd hx hb0 hm0
      obtain ⟨WA, hWA⟩ : ∃ W, wr.alloc (.cells #[.int .i64 kd, .int .i64 ep, .int .i64 tm, .int .i64 ct, .int .i64 tg, .int .i64 un, .string rt, .string nm] 30) = W := ⟨_, rfl⟩
      have bWA : Below wr.heap.size wr WA := by rw [← hWA]; exact alloc_below _ _
      have kWA : WA.heap[wr.heap.size]? = some (.cells #[.int .i64 kd, .int .i64 ep, .int .i64 tm, .int .i64 ct, .int .i64 tg, .int .i64 un, .string rt, .string nm] 30 (0, 0)) := by rw [← hWA]; exact alloc_new _ _
      have H2 := Lib.hid (And.intro (hN.out.1.below bWA) (And.intro (hN.out.2.trans (bWA.mono hN.out.2.size)) kWA))
      have EA := Lib.hid hWA
      clear bWA kWA hWA
      go_upto_region 7 with fail
      try rw [EA.out]
      clear EA d0 d1 d2 d3 d4 d5 d6 d7
      obtain ⟨⟨r0, r1, r2, r3, r4, r5, r6, r7⟩, -⟩ := blkR H2.out.2.2
      go_wp2_with fail
      refine (HAp.out _ H2.out.1).mono ?_
      rintro en v5 ⟨rfl, hs5, ht5⟩
      have H5 := Lib.hid (And.intro hs5 (H2.out.2.1.trans (ht5.below H1.out.2.2.2 H2.out.2.1.size)))
      clear hs5 ht5 r0 r1 r2 r3 r4 r5 r6 r7
      go_wp2_with fail
      go_roundw
      case rel => exact ⟨k + 1, by omega, by go_num, Lib.hid ⟨by rw [HX.out]; exact H5.out.1, H5.out.2⟩⟩
      case measure => first | (simp [intOf]; done) | (simp [intOf]; omega)
    · obtain rfl : k = l.length := by omega
      have hki : ¬ (l.length : Int) < (l.length : Int) := by omega
      rw [List.take_length] at hN
      go_wp2
      go_ret3
      exact HR.out _ _ ⟨n, c, mu, mh, mg, rfl, hN.out.1, H1.out.2.2.1, hN.out.2⟩
set_option maxRecDepth 100000 in
set_option maxHeartbeats 4000000 in
theorem few23_any (lv : Value) (l : List RecT) (w : World) (hl : Rd recE w lv l) :
    Calls Try.prog 6 #[lv] w fun e w' => ∃ b : Bool, e = .returned (.bool b) ∧ (b = true → l.length ≤ 100) ∧ Below w.heap.size w w' := by
  refine calls_by fun R HR => ?_
  have HL := Lib.hid hl
  obtain ⟨a, cap, rfl, -⟩ := hl.shape
  clear hl
  go_enter Try.func6, Try.ntmps6
  go_wp2_with fail
  go_loopw [3, 4] (fun n i wx => ∃ (k : Nat) (m : Int), k ≤ l.length ∧ n = .int .i64 m ∧ i = .int .i64 k ∧ Hid (Below w.heap.size w wx)) (fun _ i _ => l.length - (intOf i).toNat)
  case atStart => exact ⟨0, 0, Nat.zero_le _, rfl, rfl, Lib.hid (Below.refl _ _)⟩
  case round =>
    obtain ⟨k, m, hk, rfl, rfl, hN⟩ := hrel
    by_cases hlt : k < l.length
    · have hki : (k : Int) < (l.length : Int) := by omega
      by_cases h2 : k < 200
      · have h2i : (k : Int) < 200 := by omega
        obtain ⟨x, hx⟩ : ∃ x, l[k]? = some x := ⟨_, List.getElem?_eq_getElem hlt⟩
        obtain ⟨b, o, ha, hb0, dd⟩ := (HL.out.below hN.out).at k x hx
        cases ha
        have d6 : wr.cell? ⟨b, o + k * 8 + 6, none⟩ = some (.string x.root) := dd 6 _ rfl
        have d7 : wr.cell? ⟨b, o + k * 8 + 7, none⟩ = some (.string x.name) := dd 7 _ rfl
        generalize x.root = s at *
        generalize x.name = t at *
        clear dd hx hb0
        have g6 := fun p => after_cell d6 p
        have g7 := fun p => after_cell d7 p
        have hcase : ((s.size : Int) < 10000 ∨ ¬ (s.size : Int) < 10000) ∧ ((t.size : Int) < 10000 ∨ ¬ (t.size : Int) < 10000) := ⟨by omega, by omega⟩
        obtain ⟨h3 | h3, h4 | h4⟩ := hcase
        all_goals
          go_wp2_with fail
          refine wp_region_after (by kernel_rfl) (by kernel_rfl) ?_
          repeat (go_big_quiet_step (fail))
          refine wpQuiet_nil ?_
          rintro w5 ⟨q, rfl⟩
          have hb5 := after_below wr q
          have H5 := Lib.hid (hN.out.trans (hb5.mono hN.out.size))
          generalize After wr q = w5 at *
          clear hb5 g6 g7 d6 d7
          go_wp2_with fail
          go_roundw
          case rel => exact ⟨k + 1, _, by omega, rfl, by go_num, H5⟩
          case measure => simp [intOf]; omega
      · have h2i : ¬ (k : Int) < 200 := by omega
        have h60i : ¬ (l.length : Int) ≤ 100 := by omega
        have h60d : decide ((l.length : Int) ≤ 100) = false := decide_eq_false h60i
        have h60e : decide (l.length ≤ 100) = false := decide_eq_false (by omega)
        go_wp2
        exact HR.out _ _ ⟨false, rfl, (fun h => by cases h), hN.out⟩
    · obtain rfl : k = l.length := by omega
      have hki : ¬ (l.length : Int) < (l.length : Int) := by omega
      by_cases h60 : l.length ≤ 100
      · have h60i : (l.length : Int) ≤ 100 := by omega
        go_wp2
        exact HR.out _ _ ⟨_, rfl, fun _ => h60, hN.out⟩
      · have h60i : ¬ (l.length : Int) ≤ 100 := by omega
        have h60d : decide ((l.length : Int) ≤ 100) = false := decide_eq_false h60i
        have h60e : decide (l.length ≤ 100) = false := decide_eq_false h60
        go_wp2
        exact HR.out _ _ ⟨false, rfl, (fun h => by cases h), hN.out⟩
end Go.Proofs.Yteenmcmmhkggnaa
namespace Ks
open Go Go.RowKit
set_option linter.unusedVariables false
def al1 (z : ByteArray) : RecT := ⟨1, 0, 0, 0, 0, 0, z, ⟨#[]⟩⟩
def al2 : RecT := ⟨2, 1, 0, 0, 0, 9, ⟨#[]⟩, ⟨#[]⟩⟩
def al3 : RecT := ⟨5, 1, 5, 0, 0, 9, ⟨#[]⟩, ⟨#[]⟩⟩
theorem al_chk1 {z : ByteArray} (hz : z.size = 32) : chkB (al1 z) = true := by
  simp [chkB, restB, restX, al1, noRec, withB, hz]
theorem al_may1 {z : ByteArray} (hz : z.size = 32) : mayE (newB 0) (al1 z) = 0 := by
  have h := al_chk1 hz
  unfold mayE
  rw [h]
  rfl
theorem al_b1 {z : ByteArray} (hz : z.size = 32) : applyB (newB 0) (al1 z) = ⟨0, 0, 1, [], [], []⟩ := by
  rw [applyB, if_pos (al_may1 hz)]; rfl
theorem al_chk2 : chkB al2 = true := by
  simp [chkB, restB, restX, al2, noRec, withB, show wrap64 0 = 0 from by unfold wrap64; omega]
theorem al_chk3 : chkB al3 = true := by
  simp [chkB, restB, restX, al3, noRec, withB, show wrap64 0 = 0 from by unfold wrap64; omega]
theorem al_may2 : mayE ⟨0, 0, 1, [], [], []⟩ al2 = 0 := by
  unfold mayE
  rw [al_chk2]
  rfl
theorem al_b2 : applyB ⟨0, 0, 1, [], [], []⟩ al2 = ⟨0, 0, 1, [(0, 9)], [], []⟩ := by rw [applyB, if_pos al_may2]; rfl
theorem al_may3 : mayE ⟨0, 0, 1, [(0, 9)], [], []⟩ al3 = 9 := by
  unfold mayE
  rw [al_chk3]
  rfl
end Ks
namespace Go.Proofs.Yteenmcmmhkggnaa
open Go.RowKit Ks Go.Maps
set_option linter.unusedVariables false
set_option linter.unusedSimpArgs false
set_option maxRecDepth 100000 in
set_option maxHeartbeats 4000000 in
theorem alive23_any (w : World) : Calls Try.prog 7 #[] w fun e w' => e = .returned (.bool true) ∧ Below w.heap.size w w' := by
  refine calls_by fun R HR => ?_
  have HN := Lib.hid (fun w => noughts_any 32 w (by decide))
  have hz : (zerosS 32).size = 32 := by decide
  generalize zerosS 32 = Z at *
  have HRp := Lib.hid (fun lv w (h : Rd recE w lv [al1 Z, al2]) => breplay_any 0 lv [al1 Z, al2] w h (by decide) (by decide) (by show 2 ≤ 1000; decide) (by
    intro x hx
    simp only [List.mem_cons, List.not_mem_nil, or_false] at hx
    rcases hx with rfl | rfl
    · exact ⟨⟨by show (-9223372036854775808 : Int) ≤ 0; decide, by show (0 : Int) ≤ 9223372036854775807; decide⟩, by show (0 : Nat) ≤ maxLen; decide⟩
    · exact ⟨⟨by show (-9223372036854775808 : Int) ≤ 0; decide, by show (0 : Int) ≤ 9223372036854775807; decide⟩, by show (0 : Nat) ≤ maxLen; decide⟩) (by
    intro k x hx
    match k, hx with
    | 0, hx => cases hx; exact al_may1 hz
    | 1, hx => cases hx; show mayE (applyB (newB 0) (al1 Z)) al2 = 0; rw [al_b1 hz]; exact al_may2
    | k + 2, hx => simp at hx))
  have hF : foldB 0 [al1 Z, al2] = ⟨0, 0, 1, [(0, 9)], [], []⟩ := by
    show applyB (applyB (newB 0) (al1 Z)) al2 = _
    rw [al_b1 hz, al_b2]
  simp only [hF] at HRp
  have HMy := Lib.hid (fun n c mu mh mg w h => bmay_any (n := n) (c := c) (mu := mu) (mh := mh) (mg := mg) (b := ⟨0, 0, 1, [(0, 9)], [], []⟩) al3 w h ⟨⟨by show (-9223372036854775808 : Int) ≤ 0; decide, by show (0 : Int) ≤ 9223372036854775807; decide⟩, by show (0 : Nat) ≤ maxLen; decide⟩ (by decide))
  simp only [al_may3] at HMy
  have HUn := Lib.hid (fun n c mu mh mg w h => buntil_any (n := n) (c := c) (mu := mu) (mh := mh) (mg := mg) (b := ⟨0, 0, 1, [(0, 9)], [], []⟩) 0 w h (by decide))
  simp only [show tillN ⟨0, 0, 1, [(0, 9)], [], []⟩ 0 = 9 from by decide] at HUn
  clear hz hF
  go_enter Try.func7, Try.ntmps7
  go_wp2_with fail
  refine (HN.out _).mono ?_
  rintro en v1 ⟨rfl, hb⟩
  obtain ⟨WA, hWA⟩ : ∃ W, v1.alloc (.cells #[.int .i64 1, .int .i64 0, .int .i64 0, .int .i64 0, .int .i64 0, .int .i64 0, .string Z, .string ⟨#[]⟩, .int .i64 2, .int .i64 1, .int .i64 0, .int .i64 0, .int .i64 0, .int .i64 9, .string ⟨#[]⟩, .string ⟨#[]⟩] 30) = W := ⟨_, rfl⟩
  have bWA : Below v1.heap.size v1 WA := by rw [← hWA]; exact alloc_below _ _
  have rWA : Rd recE WA (.slice (some ⟨v1.heap.size, 0, none⟩) 2 2) [al1 Z, al2] := by rw [← hWA]; exact Rd.block (E := recE) (l := [al1 Z, al2]) (alloc_new v1 (.cells #[.int .i64 1, .int .i64 0, .int .i64 0, .int .i64 0, .int .i64 0, .int .i64 0, .string Z, .string ⟨#[]⟩, .int .i64 2, .int .i64 1, .int .i64 0, .int .i64 0, .int .i64 0, .int .i64 9, .string ⟨#[]⟩, .string ⟨#[]⟩] 30)) rfl
  have H1 := Lib.hid (And.intro (hb.trans (bWA.mono hb.size)) rWA)
  clear hb bWA rWA
  go_wp2_with fail
  refine (HRp.out _ _ H1.out.2).mono ?_
  rintro en v2 ⟨n, c, mu, mh, mg, rfl, hs, h5, hb⟩
  have H2 := Lib.hid (And.intro (H1.out.1.trans (hb.mono H1.out.1.size)) hs)
  clear hs h5 hb hWA
  go_wp2_with fail
  refine (HMy.out n c mu mh mg _ H2.out.2).mono ?_
  rintro en v3 ⟨rfl, hb⟩
  have H3 := Lib.hid (And.intro (H2.out.1.trans (hb.mono H2.out.1.size)) (H2.out.2.below hb))
  clear hb
  go_wp2_with fail
  refine (HUn.out n c mu mh mg _ H3.out.2).mono ?_
  rintro en v4 ⟨rfl, hw⟩
  rw [hw]
  clear hw
  go_wp2
  exact HR.out _ _ ⟨rfl, H3.out.1⟩
end Go.Proofs.Yteenmcmmhkggnaa
/- Slices among a law's arguments, of whatever elements: what they read as. No program is in sight. -/
namespace Ks
open Go Go.RowKit Go.ChangeShapes Go.WideShapes Go.ChangeAt
set_option linter.unusedVariables false

section
variable {α : Type} {E : Enc α} {H : Type} {enc : TypeId × Value → H} {P : Program} {W : World}

theorem cells_at {w : World} {base : Nat} {a : Addr} {k : Nat} {cs : List Value} (h : w.cells? base a k = some cs) : cs.length = k ∧ ∀ j u, cs[j]? = some u → w.cell? (a.add j) = some u := by
  obtain ⟨_, h2, h3⟩ := World.cells?_some h
  refine ⟨h2, fun j u hj => ?_⟩
  have hlt : j < k := by have := (List.getElem?_eq_some_iff.1 hj).1; omega
  have := h3 j hlt
  rw [hj] at this
  exact this

theorem rd_opens {T e : TypeId} {fuel : Nat} {cs : List Value} {d : DataW H × List MemPlace} (hT : P.underlying T = some (.slice e)) (hc : P.cellsOf e = E.k) (G : α → Prop)
    (hE : ∀ n cs d, DataW.trod enc P W 0 (fun _ => true) true n e cs = some d → cs.length = E.k → ∃ x, cs = E.enc x ∧ G x)
    (h : DataW.trod enc P W 0 (fun _ => true) true fuel T cs = some d) : ∃ v l, cs = [v] ∧ v.oneCell' = true ∧ Rd E W v l ∧ l.length ≤ maxLen ∧ ∀ x ∈ l, G x := by
  rcases Go.Deep.open_slice hT h with ⟨rfl, _⟩ | ⟨a, len, cap, m, n, D, Pl, rfl, _, hl, hm, hmm, _, hxx⟩
  · exact ⟨_, [], rfl, rfl, Rd.nil W, by simp, fun x hx => by simp at hx⟩
  · simp only [if_true] at hmm
    have hall : ∀ i, i < len → ∃ x : α, G x ∧ ∀ j u, (E.enc x)[j]? = some u → W.cell? ((a.add (i * E.k)).add j) = some u := by
      intro i hi
      obtain ⟨cs', h1, h2⟩ := hxx i (by omega)
      rw [hc] at h1
      obtain ⟨h3, h4⟩ := cells_at h1
      obtain ⟨x, rfl, hG⟩ := hE _ _ _ h2 h3
      exact ⟨x, hG, h4⟩
    have key : ∀ k, k ≤ len → ∃ l : List α, l.length = k ∧ (∀ x ∈ l, G x) ∧ ∀ i x, l[i]? = some x → ∀ j u, (E.enc x)[j]? = some u → W.cell? ((a.add (i * E.k)).add j) = some u := by
      intro k
      induction k with
      | zero => exact fun _ => ⟨[], rfl, fun x hx => by simp at hx, fun i x hx => by simp at hx⟩
      | succ k ih =>
        intro hk
        obtain ⟨l, h1, h2, h3⟩ := ih (by omega)
        obtain ⟨x, hG, hc⟩ := hall k (by omega)
        refine ⟨l ++ [x], by simp [h1], fun y hy => ?_, fun i y hy => ?_⟩
        · rcases List.mem_append.1 hy with h | h
          · exact h2 y h
          · simp at h; subst h; exact hG
        · by_cases hi : i < l.length
          · rw [List.getElem?_append_left hi] at hy
            exact h3 i y hy
          · have hik : i = k := by have := (List.getElem?_eq_some_iff.1 hy).1; simp at this; omega
            subst hik
            rw [List.getElem?_append_right (by omega), h1, Nat.sub_self] at hy
            simp at hy
            subst hy
            exact hc
    obtain ⟨l, hlen, hG, hcell⟩ := key len (Nat.le_refl _)
    subst hlen
    refine ⟨_, l, rfl, rfl, ⟨some a, cap, rfl, hl, fun e => by simp at e, fun i x hx => ?_⟩, by omega, hG⟩
    have h0 : 0 < (E.enc x).length := by rw [E.len]; exact E.pos
    have hlt : 0 < l.length := by have := (List.getElem?_eq_some_iff.1 hx).1; omega
    have h00 : 0 < (E.enc l[0]).length := by rw [E.len]; exact E.pos
    have hc0 := hcell 0 l[0] (List.getElem?_eq_getElem hlt) 0 _ (List.getElem?_eq_getElem h00)
    obtain ⟨b, o, s⟩ := a
    have ha : ((⟨b, o, s⟩ : Addr).add (0 * E.k)).add 0 = ⟨b, o, s⟩ := by simp [Addr.add]
    rw [ha] at hc0
    have hs : s = none := spot_none hc0
    subst hs
    refine ⟨b, o, rfl, ?_, fun j u hu => ?_⟩
    · exact World.block_lt_of_cell? _ _ hc0
    · have := hcell i x hx j u hu
      rwa [add_place, add_place] at this

theorem rd_open {T e : TypeId} {base : Nat} {v : Value} {d : DataW H} {ps : List MemPlace} (hT : P.underlying T = some (.slice e)) (hc : P.cellsOf e = E.k) (G : α → Prop)
    (hE : ∀ n cs d, DataW.trod enc P W 0 (fun _ => true) true n e cs = some d → cs.length = E.k → ∃ x, cs = E.enc x ∧ G x)
    (hok : Value.okWide P W .any base T v) (h : DataW.Trod enc P W 0 (fun _ => true) true T v d ps) : ∃ l, Rd E W v l ∧ l.length ≤ maxLen ∧ ∀ x ∈ l, G x := by
  obtain ⟨a0, len, cap, rfl⟩ := okWide_slice hT hok
  obtain ⟨fuel, hf⟩ := h
  obtain ⟨v', l, e, _, h1, h2, h3⟩ := rd_opens (E := E) hT hc G hE hf
  simp only [Value.cells, List.cons.injEq, and_true] at e
  subst e
  exact ⟨l, h1, h2, h3⟩
end

theorem choose_list {α β : Type} {p : α → β → Prop} : ∀ (l : List α), (∀ x ∈ l, ∃ y, p x y) → ∃ l' : List β, l'.length = l.length ∧ ∀ (i : Nat) (x : α) (y : β), l[i]? = some x → l'[i]? = some y → p x y
  | [], _ => ⟨[], rfl, fun i x y hx => by simp at hx⟩
  | x :: l, h => by
    obtain ⟨y, hy⟩ := h x (by simp)
    obtain ⟨l', h1, h2⟩ := choose_list l fun z hz => h z (by simp [hz])
    refine ⟨y :: l', by simp [h1], fun i a b ha hb => ?_⟩
    match i, ha, hb with
    | 0, ha, hb => simp at ha hb; subst ha hb; exact hy
    | i + 1, ha, hb => exact h2 i a b (by simpa using ha) (by simpa using hb)

/-- a slice's head, as data -/
abbrev Hdr := Option Addr × Nat × Nat
abbrev hdrV (h : Hdr) : Value := .slice h.1 h.2.1 h.2.2
end Ks
/- Records among a law's arguments. -/
namespace Go.Proofs.Yteenmcmmhkggnaa
open Go Go.RowKit Go.ChangeShapes Go.WideShapes Go.ChangeAt Ks
set_option linter.unusedVariables false
theorem cellsRec : Try.prog.cellsOf 30 = 8 := by kernel_rfl
theorem cellsIntR : Try.prog.cellsOf 3 = 1 := by kernel_rfl
theorem cellsStringR : Try.prog.cellsOf 9 = 1 := by kernel_rfl
set_option maxRecDepth 100000 in
theorem rec_of {H : Type} {enc : TypeId × Value → H} {W : World} (n : Nat) (cs : List Value) (d : DataW H × List MemPlace) (h : DataW.trod enc Try.prog W 0 (fun _ => true) true n 30 cs = some d) (hl : cs.length = recE.k) :
    ∃ x : RecT, cs = recE.enc x ∧ fitRec x := by
  obtain ⟨xs, n, _, _, hl, hlen, hF⟩ := DataW.trod_struct Try.underlying30 h
  rw [cellsRec] at hl
  match cs, hl, xs, hlen with
  | [c0, c1, c2, c3, c4, c5, c6, c7], _, [x0, x1, x2, x3, x4, x5, x6, x7], _ =>
    have t0 := hF 0 _ rfl
    have t1 := hF 1 _ rfl
    have t2 := hF 2 _ rfl
    have t3 := hF 3 _ rfl
    have t4 := hF 4 _ rfl
    have t5 := hF 5 _ rfl
    have t6 := hF 6 _ rfl
    have t7 := hF 7 _ rfl
    simp [cellsIntR, cellsStringR] at t0 t1 t2 t3 t4 t5 t6 t7
    obtain ⟨e0, h0, _, s0⟩ := DataW.trod_int Try.underlying3 t0
    obtain ⟨e1, h1, _, s1⟩ := DataW.trod_int Try.underlying3 t1
    obtain ⟨e2, h2, _, s2⟩ := DataW.trod_int Try.underlying3 t2
    obtain ⟨e3, h3, _, s3⟩ := DataW.trod_int Try.underlying3 t3
    obtain ⟨e4, h4, _, s4⟩ := DataW.trod_int Try.underlying3 t4
    obtain ⟨e5, h5, _, s5⟩ := DataW.trod_int Try.underlying3 t5
    obtain ⟨e6, h6, _, s6⟩ := DataW.trod_string Try.underlying9 t6
    obtain ⟨e7, h7, _, s7⟩ := DataW.trod_string Try.underlying9 t7
    simp at h0 h1 h2 h3 h4 h5 h6 h7
    subst h0 h1 h2 h3 h4 h5 h6 h7
    exact ⟨⟨e0, e1, e2, e3, e4, e5, e6, e7⟩, rfl, i64_range s4, s7⟩
set_option maxRecDepth 100000 in
theorem open_recs {H : Type} {enc : TypeId × Value → H} {W : World} {base : Nat} {v : Value} {d : DataW H} {ps : List MemPlace}
    (hok : Value.okWide Try.prog W .any base 22 v) (h : DataW.Trod enc Try.prog W 0 (fun _ => true) true 22 v d ps) : ∃ l, Rd recE W v l ∧ l.length ≤ maxLen ∧ ∀ x ∈ l, fitRec x :=
  rd_open (E := recE) Try.underlying22 cellsRec _ rec_of hok h
set_option maxRecDepth 100000 in
theorem open_rec {H : Type} {enc : TypeId × Value → H} {W : World} {base : Nat} {v : Value} {d : DataW H} {ps : List MemPlace}
    (hok : Value.okWide Try.prog W .any base 30 v) (h : DataW.Trod enc Try.prog W 0 (fun _ => true) true 30 v d ps) :
    ∃ x : RecT, v = recV x ∧ fitRec x := by
  obtain ⟨fuel, hf⟩ := h
  have hv : ∃ cs, v = .agg cs := by
    have h0 := hok
    unfold Value.okWide at h0
    rw [Try.underlying30] at h0
    obtain ⟨cs, h1, _⟩ := h0
    exact ⟨cs, h1⟩
  obtain ⟨⟨cs⟩, rfl⟩ := hv
  have hl : cs.length = 8 := by
    obtain ⟨xs, n, _, _, hl, _, _⟩ := DataW.trod_struct Try.underlying30 hf
    rw [cellsRec] at hl
    simpa [Value.cells] using hl
  obtain ⟨x, hx, hg⟩ := rec_of _ _ _ hf hl
  refine ⟨x, ?_, hg⟩
  simp only [Value.cells] at hx
  subst hx
  rfl
end Go.Proofs.Yteenmcmmhkggnaa
