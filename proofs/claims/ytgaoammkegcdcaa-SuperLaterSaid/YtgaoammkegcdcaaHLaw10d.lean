/- The law SuperLater: what its walk gives. -/
import Derived.Test.YtgaoammkegcdcaaHLaw10dNo
import Derived.Test.YtgaoammkegcdcaaHLaw10dBig
import Derived.Test.YtgaoammkegcdcaaHLaw10dC1
import Derived.Test.YtgaoammkegcdcaaHLaw10dC2
import Derived.Test.YtgaoammkegcdcaaHLaw10dN1
import Derived.Test.YtgaoammkegcdcaaHLaw10dN2
import Derived.Test.YtgaoammkegcdcaaHLaw10dY1
import Derived.Test.YtgaoammkegcdcaaHLaw10dY2
import Derived.Test.YtgaoammkegcdcaaHLaw10dY3
import Derived.Test.YtgaoammkegcdcaaHLaw10dY4
import Derived.Test.YtgaoammkegcdcaaHLaw10dY5
namespace Go.Proofs.Ytgaoammkegcdcaa
open Go.RowKit Ks
set_option linter.unusedVariables false
theorem law_later (g t e c b l f : Int) (second : Bool) (s : ByteArray) (came : Bool) (w : World) (hb : -9223372036854775808 ≤ b ∧ b ≤ 9223372036854775807) :
    Calls Try.prog 6 #[supV g t e c b l f, .bool second, .string s, .bool came] w fun en w' => en = .returned (.bool true) ∧ Below w.heap.size w w' := by
  cases hk : supOk g t e c b l f
  · exact later_no g t e c b l f second s came w hb ⟨.inl (nx_no hk).1, (nx_no hk).2⟩
  by_cases hg : g = 1152921504606846976
  · exact later_no g t e c b l f second s came w hb ⟨.inr (nx_far hk hg).1, (nx_far hk hg).2⟩
  by_cases hs : (10000 : Int) < s.size
  · exact later_big g t e c b l f second s came w hb (nx_yes hk hg) hs
  cases came
  · cases he : stOk s
    · cases second
      · exact later_n1 g t e c b l f s w hb hk hg hs he
      · exact later_n2 g t e c b l f s w hb hk hg hs he
    · have hv := And.intro (stV_yes he).2.2 (And.intro (show stV s = supV (stN s 9 8) (stN s 17 4) (stN s 21 4) (stN s 25 8) (stN s 33 4) (stN s 37 4) (stN s 41 4) from rfl) (show stN s 9 8 = stN s 9 8 from rfl))
      rcases Int.lt_trichotomy (stN s 9 8) g with h | h | h
      · cases second
        · exact later_y4 g t e c b l f s w hb hk hg hs _ _ _ _ _ _ _ hv h
        · exact later_y5 g t e c b l f s w hb hk hg hs _ _ _ _ _ _ _ hv h
      · cases second
        · exact later_y3 g t e c b l f s w hb hk hg hs _ _ _ _ _ _ _ hv h
        · exact later_y2 g t e c b l f s w hb hk hg hs _ _ _ _ _ _ _ hv h
      · exact later_y1 g t e c b l f second s w hb hk hg hs _ _ _ _ _ _ _ hv h
  · cases second
    · exact later_c1 g t e c b l f s w hb hk hg hs
    · exact later_c2 g t e c b l f s w hb hk hg hs
end Go.Proofs.Ytgaoammkegcdcaa
