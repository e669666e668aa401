/- posthouseref25.Net.Do: every step. -/
import Derived.Test.YtdffghaledkfeaaRefDo3
import Derived.Test.YtdffghaledkfeaaRefDo4
import Derived.Test.YtdffghaledkfeaaRefDo6
import Derived.Test.YtdffghaledkfeaaRefDo7
import Derived.Test.YtdffghaledkfeaaDoes
namespace Go.Proofs.Ytdffghaledkfeaa
open Go Go.RowKit
set_option maxRecDepth 100000
theorem rdo_any : RdoAny := by
  intro w B r wv cv x s h hB hc
  obtain ⟨sk, si, p⟩ := s
  unfold Rs.step
  dsimp only
  by_cases h1 : sk = 1
  · rw [if_pos h1]; exact rdo1 h hB ⟨sk, si, p⟩ h1
  · rw [if_neg h1]
    by_cases h2 : sk = 2
    · rw [if_pos h2]
      subst h2
      unfold Rs.deliver
      by_cases ht : x.there si
      · obtain ⟨k, rfl, hk, hat, hn⟩ := rthere_nat ht
        rw [hat, hn]
        by_cases hf : (x.cl.filter (toP x.way[k].t)).length < 64
        · rw [if_pos ⟨ht, hf⟩]
          exact rdo2_yes h hB k hk hf hc p
        · rw [if_neg fun e => hf e.2]
          exact rdo2_full h k hk hf p
      · rw [if_neg fun e => ht e.1]
        exact rdo2_no h ⟨2, si, p⟩ rfl ht
    · rw [if_neg h2]
      by_cases h3 : sk = 3
      · rw [if_pos h3]
        subst h3
        unfold Rs.drop
        by_cases ht : x.there si
        · obtain ⟨k, rfl, hk, hat, hn⟩ := rthere_nat ht
          rw [hn, if_pos ht]
          exact rdo3_yes h hB k hk p
        · rw [if_neg ht]
          exact rdo3_no h ⟨3, si, p⟩ rfl ht
      · rw [if_neg h3]
        by_cases h4 : sk = 4
        · rw [if_pos h4]
          subst h4
          unfold Rs.twice
          by_cases ht : x.there si
          · obtain ⟨k, rfl, hk, hat, hn⟩ := rthere_nat ht
            rw [hat, if_pos ht]
            exact rdo4_yes h hB k hk p
          · rw [if_neg ht]
            exact rdo4_no h ⟨4, si, p⟩ rfl ht
        · rw [if_neg h4]
          by_cases h5 : sk = 5
          · rw [if_pos h5]; exact rdo5 h hB ⟨sk, si, p⟩ h5
          · rw [if_neg h5]
            by_cases h6 : sk = 6
            · rw [if_pos h6]; exact rdo6 h hB ⟨sk, si, p⟩ h6
            · rw [if_neg h6]
              exact rdo0 h ⟨sk, si, p⟩ h1 h2 h3 h4 h5 h6
theorem does_all (A : Option Addr) (L : List Stp) (cap : Nat) (hlen : L.length ≤ maxLen) (hall : ∀ x ∈ L, x.ok) (node : Int) (hnode : kok node) (w : World) (hs : StepsAt w A L) :
    Calls Try.prog 5 #[.slice A L.length cap, .int .i64 node] w fun e w' => e = .returned (.bool true) ∧ Below w.heap.size w w' := does_walk rdo_any A L cap hlen hall node hnode w hs
end Go.Proofs.Ytdffghaledkfeaa
