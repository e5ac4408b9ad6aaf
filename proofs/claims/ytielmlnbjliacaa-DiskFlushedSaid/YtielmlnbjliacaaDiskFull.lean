/- A disk all of whose blocks are full: it stays so. Plain. -/
import Derived.Test.YtielmlnbjliacaaDiskLoad2
import Derived.Test.YtielmlnbjliacaaLawAct08
namespace Ks
open Go Go.RowKit
set_option linter.unusedVariables false
structure FullD (s : DS) : Prop where
  ok : s.ok
  many : 8 ≤ s.blocks.length
  bl : ∀ b ∈ s.blocks, b.size = 4096
  ca : ∀ p ∈ s.cache, p.2.size = 4096
theorem FullD.may {s : DS} (h : FullD s) : mayI s.blocks s.cache = true :=
  mayI_yes ⟨h.many, h.ok.blocks, h.ok.cache⟩ (fun k hk => h.bl _ (List.getElem_mem hk)) fun p hp => ⟨h.ca p hp, h.ok.at_ p hp⟩
theorem puts_full (c : List PutT) : ∀ b : List ByteArray, (∀ x ∈ b, x.size = 4096) → (∀ p ∈ c, p.2.size = 4096) → ∀ x ∈ c.foldl putC b, x.size = 4096 := by
  induction c with
  | nil => exact fun b hb _ => hb
  | cons p c ih =>
    intro b hb hc
    refine ih (putC b p) (fun x hx => ?_) fun q hq => hc q (by simp [hq])
    rcases List.mem_or_eq_of_mem_set hx with h | h
    · exact hb x h
    · rw [h]; exact hc p (by simp)
theorem FullD.puts {s : DS} (h : FullD s) (c : List PutT) (hc : ∀ p ∈ c, p.2.size = 4096) (d : Bool) (k : Nat) (hk : k ≤ 9223372036854775807) : FullD ⟨c.foldl putC s.blocks, [], d, k⟩ :=
  ⟨⟨by show (c.foldl putC s.blocks).length ≤ _; rw [puts_length]; exact h.ok.blocks, Nat.zero_le _, (fun p hp => by cases hp), hk⟩, by show 8 ≤ (c.foldl putC s.blocks).length; rw [puts_length]; exact h.many, puts_full c _ h.bl hc, fun p hp => by cases hp⟩
theorem FullD.step {s : DS} (h : FullD s) : FullD (stepD s) := ⟨stepD_ok h.ok, by rw [stepD_blocks]; exact h.many, by rw [stepD_blocks]; exact h.bl, by rw [stepD_cache]; exact h.ca⟩
theorem stepD_left (s : DS) (h : s.ok) : (stepD s).left ≤ 9223372036854775807 := (stepD_ok h).left
end Ks
namespace Go.Proofs.Ytielmlnbjliacaa
open Go.RowKit Ks
set_option linter.unusedVariables false
theorem full_do {s : DS} (h : FullD s) (a : ActT) (hn : a.n ≤ 9223372036854775807) : FullD (doD s a) := by
  have hok := doD_ok h.ok a hn
  unfold doD at hok ⊢
  split
  · rename_i hk
    rw [if_pos hk] at hok
    refine ⟨hok, ?_, ?_, ?_⟩
    all_goals
      unfold writeD
      split
      · first | exact h.many | exact h.bl | exact h.ca
      · rename_i hw
        simp only [not_or] at hw
        obtain ⟨_, _, p3⟩ := place_in hw.2.1
        split
        · first | exact h.step.many | exact h.step.bl | exact h.step.ca
        · first
            | exact h.step.many
            | exact h.step.bl
            | (intro p hp
               rcases List.mem_append.1 hp with h1 | h1
               · exact h.ca p h1
               · simp at h1; subst h1; exact p3)
  split
  · unfold flushD
    split
    · exact h
    · split
      · exact h.step
      · exact h.puts _ h.ca _ _ (stepD_left s h.ok)
  split
  · unfold armD
    split
    · exact h
    · exact ⟨⟨h.ok.blocks, h.ok.cache, h.ok.at_, by show a.n.toNat ≤ _; omega⟩, h.many, h.bl, h.ca⟩
  split
  · exact h.puts _ (fun p hp => h.ca p (keptC_mem _ _ _ p hp)) _ _ (Nat.zero_le _)
  split
  · exact ⟨bootD_ok h.ok, h.many, h.bl, fun p hp => by cases hp⟩
  split
  · unfold overD
    split
    · exact h
    · rename_i hw
      obtain ⟨_, _, p3⟩ := place_in hw
      refine ⟨⟨by show (s.blocks.set _ _).length ≤ _; rw [List.length_set]; exact h.ok.blocks, h.ok.cache, fun p hp => by show _ ∧ _ < ((s.blocks.set _ _).length : Int); rw [List.length_set]; exact h.ok.at_ p hp, h.ok.left⟩, by show 8 ≤ (s.blocks.set _ _).length; rw [List.length_set]; exact h.many, fun x hx => ?_, h.ca⟩
      rcases List.mem_or_eq_of_mem_set hx with h1 | h1
      · exact h.bl x h1
      · rw [h1]; exact p3
  · exact h
theorem full_new (k : Nat) (h8 : 8 ≤ k) (h : k ≤ 1024) : FullD (newD k) :=
  ⟨newD_ok k h, by show 8 ≤ (List.replicate k _).length; rw [List.length_replicate]; exact h8, (fun b hb => by
    have := List.eq_of_mem_replicate hb
    rw [this]
    exact List.length_replicate), fun p hp => by cases hp⟩
/-- a loaded one, crashed and booted, is the one it was seized of, crashed and booted -/
theorem same_crash (s : DS) : bootD (crashD s []) = bootD (crashD ⟨s.blocks, s.cache, false, 0⟩ []) := rfl
end Go.Proofs.Ytielmlnbjliacaa
