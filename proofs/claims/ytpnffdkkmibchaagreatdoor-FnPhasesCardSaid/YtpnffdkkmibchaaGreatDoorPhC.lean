/-
  Contracts of the longest dark time, of the text of phases and of its reading: the program's. Each under the conditions that it states.
-/
import Derived.Test.YtpnffdkkmibchaaGreatDoorPhB
import Derived.Test.YtpnffdkkmibchaaGreatDoorSplit
import Derived.Test.YtpnffdkkmibchaaGreatDoorShelfJ
import Derived.Lib.Join
import Derived.Lib.JoinLaws
set_option linter.unusedVariables false
set_option linter.unnecessarySimpa false
set_option maxRecDepth 100000
set_option linter.unusedSimpArgs false
namespace Go.Proofs.YtpnffdkkmibchaaGreatDoor
open Go.RowKit BigFrame Go.Deep

theorem decT_size {n : Int} (h1 : -9223372036854775808 ≤ n) (h2 : n ≤ 9223372036854775807) : (decT n).size ≤ 21 := by
  by_cases h : n = 0
  · subst h; rw [decT_zero]; decide
  · have := decR_len n h1 h2
    have e := congrArg List.length (decR_bytes n h)
    simp at e
    show (Lib.itoa n).toArray.size ≤ 21
    simp; omega
theorem dig_len : ∀ (n u : Nat), u < 10 ^ n → (Lib.decDigits u).length ≤ n + 1
  | 0, u, h => by
    have : u = 0 := by simpa using h
    subst this
    rw [Lib.decDigits]; simp
  | n + 1, u, h => by
    rw [Lib.decDigits]
    split
    · simp
    · rw [List.length_append, List.length_singleton]
      have h2 : u / 10 < 10 ^ n := by rw [Nat.pow_succ] at h; omega
      have := dig_len n (u / 10) h2
      omega
theorem itoa_len {v : Int} (h1 : -100000000000000000 < v) (h2 : v < 100000000000000000) : (trimL (Lib.itoa v)).length ≤ 18 := by
  unfold Lib.itoa
  by_cases hv : v < 0
  · rw [if_pos hv]
    have ht : trimL (45 :: Lib.decDigits v.natAbs) = Lib.decDigits v.natAbs := rfl
    rw [ht]
    have := dig_len 17 v.natAbs (by have : (10 : Nat) ^ 17 = 100000000000000000 := rfl; omega)
    omega
  · rw [if_neg hv]
    have ht : trimL (Lib.decDigits v.toNat) = Lib.decDigits v.toNat := by unfold trimL; rw [if_neg (dig_no45 _)]
    rw [ht]
    have := dig_len 17 v.toNat (by have : (10 : Nat) ^ 17 = 100000000000000000 := rfl; omega)
    omega
theorem num_back {v : Int} (h1 : -100000000000000000 < v) (h2 : v < 100000000000000000) : numOk (Lib.itoa v) = true ∧ numV (Lib.itoa v) = v := itoa_num (itoa_len h1 h2)
theorem dec_back {v : Int} (h1 : -100000000000000000 < v) (h2 : v < 100000000000000000) : rdOk (decT v) = true ∧ rdV (decT v) = v := by
  obtain ⟨n1, n2⟩ := num_back h1 h2
  have e : (decT v).data.toList = Lib.itoa v := rfl
  have hk : rdOk (decT v) = true := by
    show numOk (decT v).data.toList = true
    rw [e]; exact n1
  refine ⟨hk, ?_⟩
  unfold rdV
  rw [e, n1]
  exact n2
theorem split_parts (c : UInt8) : ∀ (P : List (List UInt8)), P ≠ [] → (∀ p ∈ P, c ∉ p) → splitL c (Lib.join P [c]) = P
  | [], h, _ => absurd rfl h
  | [p], _, h => by
    rw [Lib.join_one, split_free (h p (by simp))]
  | p :: q :: P, _, h => by
    have ih := split_parts c (q :: P) (by simp) (fun x hx => h x (by simp at hx ⊢; right; exact hx))
    have e : Lib.join (p :: q :: P) [c] = p ++ c :: Lib.join (q :: P) [c] := by
      rw [Lib.join_cons, Lib.join_cons]
      simp [Lib.joinTail]
    rw [e, split_app _ (h p (by simp)), ih]
/-- The run of dark tenths and the longest so far. -/
def darkTo (f : Nat → Nat) : Nat → Nat × Nat
  | 0 => (0, 0)
  | k + 1 => (if f k = 0 then (darkTo f k).1 + 1 else 0, max (darkTo f k).2 (if f k = 0 then (darkTo f k).1 + 1 else 0))
theorem dark_le (f : Nat → Nat) : ∀ k, (darkTo f k).1 ≤ k ∧ (darkTo f k).2 ≤ k
  | 0 => ⟨Nat.le_refl _, Nat.le_refl _⟩
  | k + 1 => by
    have := dark_le f k
    simp only [darkTo]
    split <;> omega
set_option maxHeartbeats 1600000 in
theorem impl_Dark (P : List RPhase) (A : Option Addr) (c B : Nat) (w : World) (hs : Sl w B A (flat RPhase.cells P)) (hB : B ≤ w.heap.size) (hok : ∀ a ∈ P, a.ok) (hl : P.length ≤ 1048576) (hv : vPhases P = true) : Calls Tryz.prog 18 #[.slice A P.length c] w fun e w' => ∃ n : Nat, PerL (tns P) n ∧ e = .returned (.tuple #[.int .i64 ((min (darkTo (cyc ((tns P).take n ++ (tns P).take n)) (n + n)).2 n : Nat) : Int), .int .i64 0]) ∧ Below w.heap.size w w' := by
  have hcd := Lib.hid (show codes (tns P) from codes_tn P.length)
  have hV := Lib.hid (fun w (h1 : Sl w B A (flat RPhase.cells P)) (h2 : B ≤ w.heap.size) => show Calls Tryz.prog 22 #[.slice A P.length c] w fun e w' => e = .returned (.bool true) ∧ Below w.heap.size w w' by have h := impl_PhOk P A c B w h1 h2 hok hl; rwa [hv] at h)
  obtain ⟨hW, hN⟩ := tns_pos hv
  have hs' := Lib.hid hs
  have hv' := Lib.hid hv
  clear hs hv hok
  go_enter Tryz.func18, Tryz.ntmps18
  go_wp2_with fail
  refine (hV.out _ hs'.out hB).mono ?_
  rintro e w1 ⟨rfl, hb1⟩
  go_wp2_with fail
  refine (impl_Once P A c B _ (hs'.out.below (hb1.mono hB)) (Nat.le_trans hB hb1.size) hv'.out).mono ?_
  rintro e w2 ⟨n, hP, A2, c2, rfl, -, hb2, hsl⟩
  have hn := hP.le hW
  have hn1 := hP.1
  have hVl : ((tns P).take n).length = n := by rw [List.length_take]; omega
  have hcd2 := Lib.hid (codes_take hcd.out n)
  have hB2 := bnext hb1 hb2
  have hP' := Lib.hid hP
  obtain ⟨V, hVe⟩ : ∃ V, (tns P).take n = V := ⟨_, rfl⟩
  have hVh := Lib.hid hVe
  rw [hVe] at hsl hVl hcd2
  subst hVl
  obtain ⟨b, o, rfl, hb, -⟩ := cls_w hsl (Nat.le_refl _) (by omega)
  have hsl' := Lib.hid hsl
  clear hsl hVe hP hb1 hb2
  go_wp2_with fail
  have hBx : Below w2.heap.size w2 (w2.alloc (.cells #[.slice (some ⟨b, o, none⟩) V.length c2, .slice (some ⟨b, o, none⟩) V.length c2] 44)) := by go_grown
  have hlift : Sl (w2.alloc (.cells #[.slice (some ⟨b, o, none⟩) V.length c2, .slice (some ⟨b, o, none⟩) V.length c2] 44)) (w2.alloc (.cells #[.slice (some ⟨b, o, none⟩) V.length c2, .slice (some ⟨b, o, none⟩) V.length c2] 44)).heap.size (some ⟨b, o, none⟩) (cls V) := (hsl'.out.below hBx).more hBx.size
  refine (lib_ConcatS V V ⟨b, o, none⟩ ⟨b, o, none⟩ c2 c2 w2.heap.size _ (by simp) (by simp) (by simp) hlift hlift (by omega) (by omega)).mono ?_
  rintro e w3 ⟨v, rfl, hb3, hown⟩
  have hB3 := bnext hB2 (bnext hBx hb3)
  obtain ⟨A3, c3, rfl, -, hsl3⟩ := owns_slc2 hown
  have hl2 : (V ++ V).length = V.length + V.length := List.length_append
  have hcd3 : codes (V ++ V) := fun c hc => by rcases List.mem_append.1 hc with h | h <;> exact hcd2.out c h
  obtain ⟨b3, o3, rfl, hb3', he3⟩ := cls_w hsl3 (Nat.le_refl _) (by omega)
  have he' := Lib.hid he3
  have hcd3' := Lib.hid hcd3
  obtain ⟨U, hU⟩ : ∃ U, V ++ V = U := ⟨_, rfl⟩
  have hUh := Lib.hid hU
  rw [hU] at hl2 he' hcd3' ⊢
  clear hU hcd3 he3 hsl3 hown hb3 hBx hlift hsl'
  have hU12 : U.length ≤ 1200 := by omega
  go_wp2_with fail
  go_loopw [5, 6, 19] (fun mv rv iv wr => ∃ k : Nat, mv = .int .i64 ((darkTo (cyc U) k).2 : Nat) ∧ rv = .int .i64 ((darkTo (cyc U) k).1 : Nat) ∧ iv = .int .i64 k ∧ k ≤ U.length ∧ Below w3.heap.size w3 wr) (fun _ _ iv _ => U.length - (intOf iv).toNat)
  case atStart => exact ⟨0, rfl, rfl, rfl, Nat.zero_le _, Below.refl _ _⟩
  case round =>
    obtain ⟨k, rfl, rfl, rfl, hk, hB4⟩ := hrel
    have hS4 := hB4.size
    by_cases hlt : k < U.length
    · have dp := he'.out wr hB4 k hlt
      have hbw : b3 < wr.heap.size := by omega
      have e1 := nm_empty (codes_cyc hcd3'.out k)
      have hle := dark_le (cyc U) k
      have hst1 : Hid ((darkTo (cyc U) (k + 1)).1 = if cyc U k = 0 then (darkTo (cyc U) k).1 + 1 else 0) := Lib.hid rfl
      have hst2 : Hid ((darkTo (cyc U) (k + 1)).2 = max (darkTo (cyc U) k).2 (if cyc U k = 0 then (darkTo (cyc U) k).1 + 1 else 0)) := Lib.hid rfl
      obtain ⟨r, hr⟩ : ∃ r, (darkTo (cyc U) k).1 = r := ⟨_, rfl⟩
      obtain ⟨m, hm⟩ : ∃ m, (darkTo (cyc U) k).2 = m := ⟨_, rfl⟩
      rw [hr] at hle hst1 hst2 ⊢
      rw [hm] at hle hst2 ⊢
      obtain ⟨x, hx⟩ : ∃ x, nm (cyc U k) = x := ⟨_, rfl⟩
      rw [hx] at dp e1
      clear hx hr hm
      have hB3' := hB4
      by_cases h0 : cyc U k = 0
      · rw [decide_eq_true h0] at e1
        rw [if_pos h0] at hst1 hst2
        clear h0
        go_wp2_with fail
        go_roundw
        case rel => exact ⟨k + 1, by rw [hst2.out]; exact congrArg (Value.int .i64) (by omega), by rw [hst1.out]; go_num, by go_num, by omega, hB4⟩
        case measure => simp [intOf]; omega
      · rw [decide_eq_false h0] at e1
        rw [if_neg h0] at hst1 hst2
        clear h0
        go_wp2_with fail
        go_roundw
        case rel => exact ⟨k + 1, by rw [hst2.out]; exact congrArg (Value.int .i64) (by omega), by rw [hst1.out]; rfl, by go_num, by omega, hB4⟩
        case measure => simp [intOf]; omega
    · obtain rfl : k = U.length := by omega
      have hBf := bnext hB3 hB4
      obtain ⟨D, hD⟩ : ∃ D, (darkTo (cyc U) U.length).2 = D := ⟨_, rfl⟩
      have hDh : Hid ((darkTo (cyc U) (V.length + V.length)).2 = D) := Lib.hid (by rw [← hl2]; exact hD)
      rw [hD]
      clear hD
      go_wp2
      go_ret2
      exact ⟨V.length, hP'.out, by rw [hVh.out, hUh.out, hDh.out]; exact congrArg (fun z => Ending.returned (.tuple #[.int .i64 z, .int .i64 0])) (by omega), hBf⟩
end Go.Proofs.YtpnffdkkmibchaaGreatDoor
