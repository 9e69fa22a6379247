/-
  Contract of CloseRhythms: the reference's. Under the conditions that it states.
-/
import Derived.Test.YtpnffdkkmibchaaRhyE
set_option linter.unusedVariables false
set_option linter.unnecessarySimpa false
set_option maxRecDepth 100000
set_option linter.unusedSimpArgs false
namespace Go.Proofs.Ytpnffdkkmibchaa
open Go.RowKit BigFrame Go.Deep

/-- What CloseRhythms says of two rows of phases and a tolerance. -/
def ClR (P Q : List RPhase) (tol : Int) (t : Bool) : Prop := ((vPhases P && (vPhases Q && inB tol 0 20)) = false ∧ t = false) ∨ ((vPhases P && (vPhases Q && inB tol 0 20)) = true ∧ ∃ J K, (NormR P J ∧ NormR Q K) ∧ t = closeM tol J K)
theorem ClR.uniq {P Q : List RPhase} {tol : Int} {t s : Bool} (h : ClR P Q tol t) (h2 : ClR P Q tol s) : t = s := by
  rcases h with ⟨h1, rfl⟩ | ⟨h1, J, K, ⟨hJ, hK⟩, rfl⟩ <;> rcases h2 with ⟨h3, rfl⟩ | ⟨h3, J', K', ⟨hJ', hK'⟩, rfl⟩
  · rfl
  · rw [h1] at h3; cases h3
  · rw [h1] at h3; cases h3
  · rw [hJ.uniq hJ', hK.uniq hK']
set_option maxHeartbeats 1600000 in
theorem spec_CloseR (P Q : List RPhase) (A A2 : Option Addr) (c c2 B : Nat) (tol : Int) (w : World) (hs : Sl w B A (flat RPhase.cells P)) (hs2 : Sl w B A2 (flat RPhase.cells Q)) (hB : B ≤ w.heap.size) (ok : ∀ a ∈ P, a.ok) (ok2 : ∀ a ∈ Q, a.ok) (hl : P.length ≤ 1048576) (hl2 : Q.length ≤ 1048576) : Calls Try.prog 5 #[.slice A P.length c, .slice A2 Q.length c2, .int .i64 tol] w fun e w' => ∃ t, ClR P Q tol t ∧ e = .returned (.bool t) ∧ Below w.heap.size w w' := by
  have hs' := Lib.hid hs
  have hs2' := Lib.hid hs2
  have ok' := Lib.hid ok
  have ok2' := Lib.hid ok2
  clear hs hs2 ok ok2
  cases h1 : vPhases P
  · have hm : Hid (ClR P Q tol false) := Lib.hid (Or.inl ⟨by rw [h1]; rfl, rfl⟩)
    go_enter Try.func5, Try.ntmps5
    go_wp2_with (first | (go_at_call 10; with_reducible refine (spec_PhOk P _ _ B _ hs'.out ok'.out hl).mono ?_; rintro e w' ⟨rfl, rfl⟩) | (go_at_call 10; with_reducible refine (spec_PhOk Q _ _ B _ hs2'.out ok2'.out hl2).mono ?_; rintro e w' ⟨rfl, rfl⟩) | (go_at_call 11; refine (spec_Tol _ _).mono ?_; rintro e w' ⟨rfl, rfl⟩))
    go_ret
    exact ⟨false, hm.out, rfl, Below.refl _ _⟩
  cases h2 : vPhases Q
  · have hm : Hid (ClR P Q tol false) := Lib.hid (Or.inl ⟨by rw [h1, h2]; rfl, rfl⟩)
    go_enter Try.func5, Try.ntmps5
    go_wp2_with (first | (go_at_call 10; with_reducible refine (spec_PhOk P _ _ B _ hs'.out ok'.out hl).mono ?_; rintro e w' ⟨rfl, rfl⟩) | (go_at_call 10; with_reducible refine (spec_PhOk Q _ _ B _ hs2'.out ok2'.out hl2).mono ?_; rintro e w' ⟨rfl, rfl⟩) | (go_at_call 11; refine (spec_Tol _ _).mono ?_; rintro e w' ⟨rfl, rfl⟩))
    go_ret
    exact ⟨false, hm.out, rfl, Below.refl _ _⟩
  cases h3 : inB tol 0 20
  · have hm : Hid (ClR P Q tol false) := Lib.hid (Or.inl ⟨by rw [h1, h2, h3]; rfl, rfl⟩)
    go_enter Try.func5, Try.ntmps5
    go_wp2_with (first | (go_at_call 10; with_reducible refine (spec_PhOk P _ _ B _ hs'.out ok'.out hl).mono ?_; rintro e w' ⟨rfl, rfl⟩) | (go_at_call 10; with_reducible refine (spec_PhOk Q _ _ B _ hs2'.out ok2'.out hl2).mono ?_; rintro e w' ⟨rfl, rfl⟩) | (go_at_call 11; refine (spec_Tol _ _).mono ?_; rintro e w' ⟨rfl, rfl⟩))
    go_ret
    exact ⟨false, hm.out, rfl, Below.refl _ _⟩
  have hof := Lib.hid (fun J K hJ hK => show ClR P Q tol (closeM tol J K) from Or.inr ⟨by rw [h1, h2, h3]; rfl, J, K, ⟨hJ, hK⟩, rfl⟩)
  have ht := inB_yes.1 h3
  go_enter Try.func5, Try.ntmps5
  go_wp2_with (first | (go_at_call 10; with_reducible refine (spec_PhOk P _ _ B _ hs'.out ok'.out hl).mono ?_; rintro e w' ⟨rfl, rfl⟩) | (go_at_call 10; with_reducible refine (spec_PhOk Q _ _ B _ hs2'.out ok2'.out hl2).mono ?_; rintro e w' ⟨rfl, rfl⟩) | (go_at_call 11; refine (spec_Tol _ _).mono ?_; rintro e w' ⟨rfl, rfl⟩))
  refine (spec_Close P Q A A2 c c2 B tol _ hs'.out hs2'.out hB h1 h2 ht).mono ?_
  rintro e w1 ⟨J, K, ⟨hJ, hK⟩, rfl, hb1⟩
  have hm := Lib.hid (hof.out J K hJ hK)
  clear hof hJ hK
  generalize closeM tol J K = t at hm
  go_wp2
  go_ret
  exact ⟨t, hm.out, rfl, hb1⟩
end Go.Proofs.Ytpnffdkkmibchaa
