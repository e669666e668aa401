/- index: are there too many changes? -/
import Derived.Test.YtokhnbdhcehonaaGreatRo
set_option linter.unusedSimpArgs false
set_option linter.unusedVariables false
namespace Go.Proofs.YtokhnbdhcehonaaGreat
open Go Go.RowKit Row
set_option maxRecDepth 100000
def LgV (l : List Ch) (w : World) (r : Ending) (w' : World) : Prop := ∃ b : Bool, r = .returned (.bool b) ∧ (b = false → l.length ≤ 40) ∧ w' = w
set_option maxHeartbeats 8000000 in
theorem large_any {w : World} {l : List Ch} {v : Value} (h : Ro w v l) :
    Calls Tryz.prog 9 #[v] w (LgV l w) := by
  obtain ⟨A, cap, hv, hlc, hcap⟩ := h.any
  subst hv
  have HL := Lib.hid h
  clear h
  have hm63 : maxLen = 9223372036854775807 := rfl
  go_enter Tryz.func9, Tryz.ntmps9
  go_wp2_with fail
  go_loop [3] (fun i => ∃ k : Nat, k ≤ l.length ∧ i = .int .i64 k) (fun i => l.length - (intOf i).toNat)
  case atStart => exact ⟨0, by omega, rfl⟩
  case round =>
    obtain ⟨k, hk, rfl⟩ := hrel
    by_cases hlt : k < l.length
    · have hltI : decide ((k : Int) < (l.length : Int)) = true := decide_eq_true (by omega)
      have hltI2 : (k : Int) < (l.length : Int) := by omega
      by_cases h40 : k < 40
      · have h40I : decide ((k : Int) < 40) = true := decide_eq_true (by omega)
        obtain ⟨b, off, cap', he, hbl, hrg⟩ := HL.out.at_ (by omega)
        cases he
        have r3 : w.cell? ⟨b, off + k * 18 + 3, none⟩ = some (.string l[k].up) := hrg k hlt 3 _ rfl
        have r4 : w.cell? ⟨b, off + k * 18 + 4, none⟩ = some (.string l[k].name) := hrg k hlt 4 _ rfl
        have r5 : w.cell? ⟨b, off + k * 18 + 5, none⟩ = some (.string l[k].ch) := hrg k hlt 5 _ rfl
        clear hrg
        obtain ⟨b1, h1⟩ : ∃ b, decide ((100 : Int) < (l[k].up.size : Int)) = b := ⟨_, rfl⟩
        obtain ⟨b2, h2⟩ : ∃ b, decide ((300 : Int) < (l[k].name.size : Int)) = b := ⟨_, rfl⟩
        obtain ⟨b3, h3⟩ : ∃ b, decide ((100 : Int) < (l[k].ch.size : Int)) = b := ⟨_, rfl⟩
        cases b1
        · cases b2
          · cases b3
            · go_wp2_with fail
              go_round
              case rel => exact ⟨k + 1, by omega, by go_num⟩
              case measure => simp [intOf]; omega
            · go_wp2_with fail
              go_ret
              exact ⟨true, rfl, (fun h => by cases h), rfl⟩
          · go_wp2_with fail
            go_ret
            exact ⟨true, rfl, (fun h => by cases h), rfl⟩
        · go_wp2_with fail
          go_ret
          exact ⟨true, rfl, (fun h => by cases h), rfl⟩
      · have h40I : decide ((k : Int) < 40) = false := decide_eq_false (by omega)
        obtain ⟨q, hq⟩ : ∃ q, decide ((40 : Int) < (l.length : Int)) = q := ⟨_, rfl⟩
        have HQ := Lib.hid hq
        go_wp2_with fail
        go_ret
        exact ⟨q, rfl, (fun h => by have := HQ.out; rw [h] at this; have := of_decide_eq_false this; omega), rfl⟩
    · have hltI : decide ((k : Int) < (l.length : Int)) = false := decide_eq_false (by omega)
      obtain ⟨q, hq⟩ : ∃ q, decide ((40 : Int) < (l.length : Int)) = q := ⟨_, rfl⟩
      have HQ := Lib.hid hq
      go_wp2_with fail
      go_ret
      exact ⟨q, rfl, (fun h => by have := HQ.out; rw [h] at this; have := of_decide_eq_false this; omega), rfl⟩
end Go.Proofs.YtokhnbdhcehonaaGreat
