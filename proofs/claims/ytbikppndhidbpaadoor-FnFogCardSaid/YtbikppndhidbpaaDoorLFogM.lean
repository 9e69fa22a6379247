/-
  FnFog: a fog signal sounds in its blasts, the next blast is one, loudness carries farther with more power and with the wind, the least power is enough, and the text of a signal is read back. Under no condition; the library's variables read as their texts lay them (the card ties them).
-/
import Derived.Test.YtbikppndhidbpaaDoorBase
import Derived.Test.YtbikppndhidbpaaDoorFlat
import Derived.Test.YtbikppndhidbpaaDoorRdL
import Derived.Test.YtbikppndhidbpaaDoorRdD
import Derived.Test.YtbikppndhidbpaaDoorTexts
import Derived.Shelf.LaysM
import Derived.Shelf.LaysC
import Derived.Shelf.Strings.Prefix
import Derived.Test.YtbikppndhidbpaaDoorProg
import Derived.Test.YtbikppndhidbpaaDoorFogD
import Derived.Test.YtbikppndhidbpaaDoorFogR
import Derived.Test.YtbikppndhidbpaaDoorEnv
/-
  Contracts of the laws' own helpers that choose numbers by bytes. Under the conditions that each states.
-/
set_option linter.unusedVariables false
set_option linter.unnecessarySimpa false
set_option maxRecDepth 100000
set_option linter.unusedSimpArgs false
namespace Go.Proofs.YtbikppndhidbpaaDoor
open Go.RowKit BigFrame

theorem b10Long_any (n c : Nat) (A : Option Addr) (w : World) (hn : n ≤ maxLen) : Calls Tryd.prog 16 #[.slice A n c] w fun e w' => e = .returned (.bool (decide (1048576 < n))) ∧ w = w' := by
  have hn2 : n ≤ 9223372036854775807 := by simpa [maxLen, IntKind.max, IntKind.bits, IntKind.signed] using hn
  by_cases h : 1048576 < n
  · go_enter Tryd.func16, Tryd.ntmps16
    go_wp2
    go_ret
    exact ⟨ret_bool (by simp; omega), rfl⟩
  · go_enter Tryd.func16, Tryd.ntmps16
    go_wp2
    go_ret
    exact ⟨ret_bool (by simp; omega), rfl⟩
end Go.Proofs.YtbikppndhidbpaaDoor

/-
  Rows of bytes that came in. Under the conditions that each states.
-/
set_option linter.unusedVariables false
set_option linter.unnecessarySimpa false
set_option maxRecDepth 100000
set_option linter.unusedSimpArgs false
namespace Go.Proofs.YtbikppndhidbpaaDoor
open Go.RowKit BigFrame Go.Deep

def bytesL (L : List Int) : List Value := L.map (Value.int .u8)
section
variable {H : Type} {enc : TypeId × Value → H} {P : Program} {w : World} {spare : Nat → Bool} {held : Bool}
theorem trod_one_u8 {i : TypeId} (hi : P.underlying i = some (.int .u8)) {m : Nat} {c : List Value} {y : DataW H × List MemPlace} {b : Nat} (h : DataW.trod enc P w b spare held m i c = some y) : ∃ a : Int, c = [.int .u8 a] ∧ IntKind.u8.has a := by
  have h' := h
  obtain ⟨z, e, _, q⟩ := DataW.trod_int hi h'
  exact ⟨z, e, by simpa [Lit.wf, IntKind.has] using q⟩
theorem flat_u8 (L : List Int) : flat (fun a : Int => [Value.int .u8 a]) L = bytesL L := by
  induction L with
  | nil => rfl
  | cons a L ih => rw [flat_cons, ih]; rfl
theorem open_row8 {t i : TypeId} {fuel : Nat} {cs : List Value} {x : DataW H × List MemPlace} (ht : P.underlying t = some (.slice i)) (hi : P.underlying i = some (.int .u8)) (hC : P.cellsOf i = 1) (h : DataW.trod enc P w 0 spare held fuel t cs = some x) :
    ∃ (A : Option Addr) (c : Nat) (L : List Int), cs = [.slice A L.length c] ∧ Sl w w.heap.size A (bytesL L) ∧ (∀ a ∈ L, IntKind.u8.has a) ∧ L.length ≤ maxLen := by
  obtain ⟨A, c, L, e, hs, hb, hl⟩ := open_flat (fun a : Int => [Value.int .u8 a]) IntKind.u8.has (fun _ => rfl) (by decide) ht hC (fun _ _ _ h => trod_one_u8 hi h) h
  exact ⟨A, c, L, e, by rw [← flat_u8]; exact hs, hb, hl⟩
end
end Go.Proofs.YtbikppndhidbpaaDoor

/-
  Plain words: the numeral of a number is read back; parts that are joined are parted again. Under the conditions that each states.
-/
set_option linter.unusedVariables false
set_option maxRecDepth 100000
set_option linter.unusedSimpArgs false
namespace Go.Proofs.YtbikppndhidbpaaDoor
open Go.RowKit BigFrame

theorem dig_len : ∀ (n u : Nat), u < 10 ^ n → (Lib.decDigits u).length ≤ n + 1
  | 0, u, h => by
    have : u = 0 := by simpa using h
    subst this
    rw [Lib.decDigits]; simp
  | n + 1, u, h => by
    rw [Lib.decDigits]
    split
    · simp
    · rw [List.length_append, List.length_singleton]
      have h2 : u / 10 < 10 ^ n := by rw [Nat.pow_succ] at h; omega
      have := dig_len n (u / 10) h2
      omega
theorem itoa_len {v : Int} (h1 : -100000000000000000 < v) (h2 : v < 100000000000000000) : (trimL (Lib.itoa v)).length ≤ 18 := by
  unfold Lib.itoa
  by_cases hv : v < 0
  · rw [if_pos hv]
    have ht : trimL (45 :: Lib.decDigits v.natAbs) = Lib.decDigits v.natAbs := rfl
    rw [ht]
    have := dig_len 17 v.natAbs (by have : (10 : Nat) ^ 17 = 100000000000000000 := rfl; omega)
    omega
  · rw [if_neg hv]
    have ht : trimL (Lib.decDigits v.toNat) = Lib.decDigits v.toNat := by unfold trimL; rw [if_neg (dig_no45 _)]
    rw [ht]
    have := dig_len 17 v.toNat (by have : (10 : Nat) ^ 17 = 100000000000000000 := rfl; omega)
    omega
theorem num_back {v : Int} (h1 : -100000000000000000 < v) (h2 : v < 100000000000000000) : numOk (Lib.itoa v) = true ∧ numV (Lib.itoa v) = v := itoa_num (itoa_len h1 h2)
theorem dec_back {v : Int} (h1 : -100000000000000000 < v) (h2 : v < 100000000000000000) : rdOk (decT v) = true ∧ rdV (decT v) = v := by
  obtain ⟨n1, n2⟩ := num_back h1 h2
  have e : (decT v).data.toList = Lib.itoa v := rfl
  have hk : rdOk (decT v) = true := by
    show numOk (decT v).data.toList = true
    rw [e]; exact n1
  refine ⟨hk, ?_⟩
  unfold rdV
  rw [e, n1]
  exact n2
theorem split_parts (c : UInt8) : ∀ (P : List (List UInt8)), P ≠ [] → (∀ p ∈ P, c ∉ p) → splitL c (Lib.join P [c]) = P
  | [], h, _ => absurd rfl h
  | [p], _, h => by
    rw [Lib.join_one, split_free (h p (by simp))]
  | p :: q :: P, _, h => by
    have ih := split_parts c (q :: P) (by simp) (fun x hx => h x (by simp at hx ⊢; right; exact hx))
    have e : Lib.join (p :: q :: P) [c] = p ++ c :: Lib.join (q :: P) [c] := by
      rw [Lib.join_cons, Lib.join_cons]
      simp [Lib.joinTail]
    rw [e, split_app _ (h p (by simp)), ih]
theorem owns_below {w w' : World} {B : Nat} {e : TypeId} {sz : Nat} {v : Value} {n : Nat} {xs : List Value} (h : w.ownsRow B e sz v n xs) (hb : Below w.heap.size w w') : w'.ownsRow B e sz v n xs := by
  refine World.ownsRow.kept (row := none) h ⟨hb.os, hb.tape, hb.output, hb.size, fun k hk _ => hb.block k hk⟩ ?_
  cases v.ownBlock
  · exact .inl rfl
  · exact .inr (by simp)
end Go.Proofs.YtbikppndhidbpaaDoor

/-
  Plain words: the texts of points and dangers are read back as what they are texts of. Under the conditions that each states.
-/
set_option linter.unusedVariables false
set_option maxRecDepth 100000
set_option linter.unusedSimpArgs false
namespace Go.Proofs.YtbikppndhidbpaaDoor
open Go.RowKit BigFrame

theorem dec_list (v : Int) : (decT v).data.toList = Lib.itoa v := rfl
theorem dec_bk {v : Int} (h1 : -100000000000000000 < v) (h2 : v < 100000000000000000) : numOk (decT v).data.toList = true ∧ numV (decT v).data.toList = v ∧ rdV (ba (decT v).data.toList) = v := by
  rw [dec_list]
  obtain ⟨a, b⟩ := num_back h1 h2
  refine ⟨a, b, ?_⟩
  unfold rdV
  rw [ba_list, a, b]
  rfl
theorem pt_list (x y : Int) : (ptT x y).data.toList = (decT x).data.toList ++ 44 :: (decT y).data.toList := by
  unfold ptT
  simp [ByteArray.data_append]
theorem pt_back {x y : Int} (h : vPoint x y = true) : rpOk (ptT x y).data.toList = true ∧ rpX (ptT x y).data.toList = x ∧ rpY (ptT x y).data.toList = y := by
  have hv := vPoint_yes h
  obtain ⟨a1, a2, _⟩ := dec_bk (v := x) (by omega) (by omega)
  obtain ⟨b1, b2, _⟩ := dec_bk (v := y) (by omega) (by omega)
  have hs : splitL 44 (ptT x y).data.toList = [(decT x).data.toList, (decT y).data.toList] := by
    rw [pt_list, split_app _ (num_free a1 44 (by decide) (by decide)), split_free (num_free b1 44 (by decide) (by decide))]
  obtain ⟨e1, e2⟩ := rp_two hs
  have hk : rpOk (ptT x y).data.toList = true := by
    unfold rpOk
    rw [e1, e2, a1, b1, a2, b2, h]
    rfl
  refine ⟨hk, ?_, ?_⟩
  · unfold rpX; rw [hk, e1, a2]; rfl
  · unfold rpY; rw [hk, e2, b2]; rfl
end Go.Proofs.YtbikppndhidbpaaDoor

/-
  The library's contracts that this seat leans on, laid at its own numbers (what the shelf's own two commands have written, cut to what is used). Under the conditions that each states.
-/
set_option linter.unusedVariables false
namespace Go.Proofs.YtbikppndhidbpaaDoor
open Go.Shelf
def st_lays102_ren : Go.Shelf.Ren := ⟨fun | 102 => 81 | 209 => 125 | 207 => 145 | n => n, fun | 9 => 9 | 4 => 4 | 3 => 3 | n => n, fun | n => n⟩

theorem st_lays102 : Go.Proofs.Lays.n102 Tryd.prog st_lays102_ren := {
  mixed := by kernel_rfl
  f102 := Tryd.func81.trans (congrArg some (by kernel_rfl))
  f207 := Tryd.func145.trans (congrArg some (by kernel_rfl))
  f209 := Tryd.func125.trans (congrArg some (by kernel_rfl))
  t3 := Tryd.underlying3
  a3 := Tryd.isAgg3
  z3 := Tryd.sizeOf3
  v3 := Tryd.zeroValue3
  t4 := Tryd.underlying4
  a4 := Tryd.isAgg4
  z4 := Tryd.sizeOf4
  v4 := Tryd.zeroValue4
  t9 := Tryd.underlying9
  a9 := Tryd.isAgg9
  z9 := Tryd.sizeOf9
  v9 := Tryd.zeroValue9 }

open Go.RowKit Go.Lib in
theorem st_strings_TrimSuffix (s p : ByteArray) (w : World) (hs : s.size ≤ 9223372036854775807) :
    Calls Tryd.prog 81 #[.string s, .string p] w fun e w' => e = .returned (.string ⟨(Lib.trimSuffix s.data.toList p.data.toList).toArray⟩) ∧ w' = w := Any.strings_TrimSuffix st_lays102 s p w hs
end Go.Proofs.YtbikppndhidbpaaDoor

/-
  Contracts of the blasts of a fog signal: when they begin and end, whether it sounds, the next one. Under the conditions that each states.
-/
set_option linter.unusedVariables false
set_option linter.unnecessarySimpa false
set_option maxRecDepth 100000
set_option linter.unusedSimpArgs false
namespace Go.Proofs.YtbikppndhidbpaaDoor
open Go.RowKit BigFrame Go.Deep

def fogOk (k b p q : Int) : Bool := (inB k 1 4 && inB b 1 6) && (inB p (2 * b * lenF k) 1200 && inB q 60 140)
theorem fog_yes {k b p q : Int} (h : fogOk k b p q = true) : (1 ≤ k ∧ k ≤ 4) ∧ (1 ≤ b ∧ b ≤ 6) ∧ (2 * b * lenF k ≤ p ∧ p ≤ 1200) ∧ 60 ≤ q ∧ q ≤ 140 := by
  unfold fogOk at h
  rw [Bool.and_eq_true, Bool.and_eq_true, Bool.and_eq_true, inB_yes, inB_yes, inB_yes, inB_yes] at h
  exact ⟨h.1.1, h.1.2, h.2.1, h.2.2⟩
theorem lenC : ∀ (k : Nat), k < 4 → (#[Value.int .i64 20, .int .i64 40, .int .i64 5, .int .i64 30])[k]? = some (.int .i64 (lenF ((k : Int) + 1))) := by
  intro k hk
  match k, hk with
  | 0, _ => rfl
  | 1, _ => rfl
  | 2, _ => rfl
  | 3, _ => rfl
theorem impl_blast (k : Int) (w : World) : Calls Tryd.prog 122 #[.int .i64 k] w fun e w' => e = .returned (.int .i64 (lenF k)) ∧ w = w' := by
  have hW := within_any k 1 4
  cases h : inB k 1 4
  · have hV : Hid (lenF k = 0) := Lib.hid (by
      have := inB_no.1 h
      unfold lenF
      rw [if_neg (by omega), if_neg (by omega), if_neg (by omega), if_neg (by omega)])
    rw [h] at hW
    go_enter Tryd.func122, Tryd.ntmps122
    go_wp2_with (go_at_call 61; refine (hW _).mono ?_; rintro e w' ⟨rfl, rfl⟩)
    go_ret
    exact ⟨ret_int hV.out.symm, rfl⟩
  · have hb := inB_yes.1 h
    rw [h] at hW
    obtain ⟨m, hm⟩ : ∃ m : Nat, k - 1 = m := ⟨(k - 1).toNat, by omega⟩
    have hmb : m < 4 := by omega
    have hV : Hid (lenF ((m : Int) + 1) = lenF k) := Lib.hid (by rw [show (m : Int) + 1 = k by omega])
    have hix := fun w => run_index_arr (P := Tryd.prog) (w := w) (e := 2) Tryd.underlying158 Tryd.underlying2 (by kernel_rfl) m hmb (lenC m hmb)
    generalize lenF ((m : Int) + 1) = n at hV hix
    go_enter Tryd.func122, Tryd.ntmps122
    go_wp2_with (go_at_call 61; refine (hW _).mono ?_; rintro e w' ⟨rfl, rfl⟩)
    go_ret
    exact ⟨ret_int hV.out, rfl⟩
def blownOk (k b : Int) : Bool := inB k 1 4 && inB b 1 6
theorem len_pos {k : Int} : decide (0 < lenF k) = inB k 1 4 := by
  cases h : inB k 1 4
  · have := inB_no.1 h
    unfold lenF
    rw [if_neg (by omega), if_neg (by omega), if_neg (by omega), if_neg (by omega)]
    rfl
  · have := lenF_bd (inB_yes.1 h)
    exact decide_eq_true (by omega)
theorem impl_isBlown (k b p q : Int) (w : World) : Calls Tryd.prog 123 #[.agg #[.int .i64 k, .int .i64 b, .int .i64 p, .int .i64 q]] w fun e w' => e = .returned (.bool (blownOk k b)) ∧ Below w.heap.size w w' := by
  have hL := fun w => impl_blast k w
  have hW := fun w => within_any b 1 6 w
  have hp := @len_pos k
  generalize lenF k = n at hL hp
  unfold blownOk
  cases hk : inB k 1 4
  · rw [hk] at hp
    go_enter Tryd.func123, Tryd.ntmps123
    go_wp2_with (go_at_call 122; refine (hL _).mono ?_; rintro e w' ⟨rfl, rfl⟩)
    all_goals try (exfalso; simp at hp; omega)
    go_ret
    exact ⟨ret_bool (by simp), by go_grown⟩
  · rw [hk] at hp
    cases hb : inB b 1 6
    · rw [hb] at hW
      go_enter Tryd.func123, Tryd.ntmps123
      go_wp2_with (first | (go_at_call 122; refine (hL _).mono ?_; rintro e w' ⟨rfl, rfl⟩) | (go_at_call 61; refine (hW _).mono ?_; rintro e w' ⟨rfl, rfl⟩))
      all_goals try (exfalso; simp at hp; omega)
      go_ret
      exact ⟨ret_bool (by simp), by go_grown⟩
    · rw [hb] at hW
      go_enter Tryd.func123, Tryd.ntmps123
      go_wp2_with (first | (go_at_call 122; refine (hL _).mono ?_; rintro e w' ⟨rfl, rfl⟩) | (go_at_call 61; refine (hW _).mono ?_; rintro e w' ⟨rfl, rfl⟩))
      all_goals try (exfalso; simp at hp; omega)
      go_ret
      exact ⟨ret_bool (by simp), by go_grown⟩
theorem impl_leastPer (k b p q : Int) (w : World) (hk : 1 ≤ k ∧ k ≤ 4) (hb : 1 ≤ b ∧ b ≤ 6) : Calls Tryd.prog 124 #[.agg #[.int .i64 k, .int .i64 b, .int .i64 p, .int .i64 q]] w fun e w' => e = .returned (.int .i64 (2 * b * lenF k)) ∧ Below w.heap.size w w' := by
  have hL := fun w => impl_blast k w
  have h := lenF_bd hk
  have h2 := least_bd hk hb
  generalize lenF k = n at hL h h2
  go_enter Tryd.func124, Tryd.ntmps124
  go_wp2_with fail
  refine wp_region_grew (by kernel_rfl) (by kernel_rfl) ?_
  repeat (first | (go_big_quiet_step ((go_at_call 122; exact grew_same (hL _)))) | (quiet_step ((go_at_call 122; exact grew_same (hL _)))))
  refine wpQuiet_nil ?_
  rintro _ ⟨⟨w9, hb9⟩, rfl⟩
  try dsimp only
  obtain ⟨hc9, hf9⟩ := bcell hb9
  go_wp2
  go_ret
  exact ⟨rfl, bnext (by go_grown) hb9⟩
set_option maxHeartbeats 800000 in
theorem impl_ValidFog (k b p q : Int) (w : World) : Calls Tryd.prog 79 #[.agg #[.int .i64 k, .int .i64 b, .int .i64 p, .int .i64 q]] w fun e w' => e = .returned (.bool (fogOk k b p q)) ∧ Below w.heap.size w w' := by
  have hI := fun w => impl_isBlown k b p q w
  have hQ := fun w => impl_isPower q w
  have e : fogOk k b p q = (blownOk k b && (inB p (2 * b * lenF k) 1200 && inB q 60 140)) := rfl
  rw [e]
  cases h : blownOk k b
  · rw [h] at hI
    clear hQ e
    go_enter Tryd.func79, Tryd.ntmps79
    go_wp2_with fail
    refine wp_region_grew (by kernel_rfl) (by kernel_rfl) ?_
    repeat (first | (go_big_quiet_step ((go_at_call 123; exact grew_of (hI _)))) | (quiet_step ((go_at_call 123; exact grew_of (hI _)))))
    refine wpQuiet_nil ?_
    rintro _ ⟨⟨w9, hb9⟩, rfl⟩
    try dsimp only
    obtain ⟨hc9, hf9⟩ := bcell hb9
    go_wp2
    go_ret
    exact ⟨ret_bool (by simp), bnext (by go_grown) hb9⟩
  · rw [h] at hI
    have h' := h
    unfold blownOk at h'
    rw [Bool.and_eq_true, inB_yes, inB_yes] at h'
    have hP := fun w => impl_leastPer k b p q w h'.1 h'.2
    have hW := fun w => within_any p (2 * b * lenF k) 1200 w
    clear h h' e
    generalize 2 * b * lenF k = n at hP hW
    cases h1 : inB p n 1200
    · rw [h1] at hW
      clear h1
      go_enter Tryd.func79, Tryd.ntmps79
      go_wp2_with fail
      refine wp_region_grew (by kernel_rfl) (by kernel_rfl) ?_
      repeat (first | (go_big_quiet_step ((first | (go_at_call 123; exact grew_of (hI _)) | (go_at_call 124; exact grew_of (hP _)) | (go_at_call 61; exact grew_same (hW _)) | (go_at_call 90; exact grew_same (hQ _))))) | (quiet_step ((first | (go_at_call 123; exact grew_of (hI _)) | (go_at_call 124; exact grew_of (hP _)) | (go_at_call 61; exact grew_same (hW _)) | (go_at_call 90; exact grew_same (hQ _))))))
      refine wpQuiet_nil ?_
      rintro _ ⟨⟨w9, hb9⟩, rfl⟩
      try dsimp only
      obtain ⟨hc9, hf9⟩ := bcell hb9
      go_wp2
      go_ret
      exact ⟨ret_bool (by simp), bnext (by go_grown) hb9⟩
    · rw [h1] at hW
      clear h1
      cases h2 : inB q 60 140
      · rw [h2] at hQ
        go_enter Tryd.func79, Tryd.ntmps79
        go_wp2_with fail
        refine wp_region_grew (by kernel_rfl) (by kernel_rfl) ?_
        repeat (first | (go_big_quiet_step ((first | (go_at_call 123; exact grew_of (hI _)) | (go_at_call 124; exact grew_of (hP _)) | (go_at_call 61; exact grew_same (hW _)) | (go_at_call 90; exact grew_same (hQ _))))) | (quiet_step ((first | (go_at_call 123; exact grew_of (hI _)) | (go_at_call 124; exact grew_of (hP _)) | (go_at_call 61; exact grew_same (hW _)) | (go_at_call 90; exact grew_same (hQ _))))))
        refine wpQuiet_nil ?_
        rintro _ ⟨⟨w9, hb9⟩, rfl⟩
        try dsimp only
        obtain ⟨hc9, hf9⟩ := bcell hb9
        go_wp2
        go_ret
        exact ⟨ret_bool (by simp), bnext (by go_grown) hb9⟩
      · rw [h2] at hQ
        go_enter Tryd.func79, Tryd.ntmps79
        go_wp2_with fail
        refine wp_region_grew (by kernel_rfl) (by kernel_rfl) ?_
        repeat (first | (go_big_quiet_step ((first | (go_at_call 123; exact grew_of (hI _)) | (go_at_call 124; exact grew_of (hP _)) | (go_at_call 61; exact grew_same (hW _)) | (go_at_call 90; exact grew_same (hQ _))))) | (quiet_step ((first | (go_at_call 123; exact grew_of (hI _)) | (go_at_call 124; exact grew_of (hP _)) | (go_at_call 61; exact grew_same (hW _)) | (go_at_call 90; exact grew_same (hQ _))))))
        refine wpQuiet_nil ?_
        rintro _ ⟨⟨w9, hb9⟩, rfl⟩
        try dsimp only
        obtain ⟨hc9, hf9⟩ := bcell hb9
        go_wp2
        go_ret
        exact ⟨ret_bool (by simp), bnext (by go_grown) hb9⟩
def sv (g : Nat) : Value := .slice (some ⟨g, 0, none⟩) 2 2
/-- The beginning of blast i. -/
def bP (n : Int) (i : Nat) : Int := 2 * i * n
theorem bP_zero (n : Int) : bP n 0 = 0 := by simp [bP]
theorem bP_succ (n : Int) (i : Nat) : bP n (i + 1) = bP n i + 2 * n := by
  unfold bP
  rw [Int.natCast_add, Int.mul_add, Int.add_mul]
  simp
theorem bP_nonneg {n : Int} (hn : 1 ≤ n) : ∀ i, 0 ≤ bP n i
  | 0 => by rw [bP_zero]; omega
  | i + 1 => by have := bP_nonneg hn i; rw [bP_succ]; omega
theorem bP_mono {n : Int} (hn : 1 ≤ n) {i j : Nat} (h : i < j) : bP n i + 2 * n ≤ bP n j := by
  induction j with
  | zero => omega
  | succ j ih =>
    rw [bP_succ]
    rcases (by omega : i < j ∨ i = j) with h1 | rfl
    · have := ih h1; omega
    · omega
def BlG (w : World) (n : Int) (gs : List Nat) : Prop := ∀ i, i < gs.length → Own w (gs.getD i 0) 2 2 [.int .i64 (bP n i), .int .i64 (bP n i + n)]
theorem BlG.on {w w1 : World} {n : Int} {gs : List Nat} (h : BlG w n gs) (hb : Below w.heap.size w w1) : BlG w1 n gs := fun i hi => (h i hi).on hb
theorem owns_type {w : World} {B sz m g : Nat} {e t : TypeId} {v : Value} {xs ys : List Value} {N : Nat} (h : w.ownsRow B e sz v m xs) (hO : Own w g t N ys) (hne : t ≠ e) : v.ownBlock ≠ some g := by
  obtain ⟨_, ⟨rfl, _⟩ | ⟨k, cap, cur, rfl, hb, hh, _⟩⟩ := h
  · intro e; cases e
  · intro e
    have e' : k = g := Option.some.inj e
    subst e'
    obtain ⟨c2, h2, _⟩ := hO
    rw [hh] at h2
    injection h2 with h3
    injection h3 with _ h4 _
    exact hne h4.symm
theorem Own.farO {w w' : World} {g : Nat} {t : TypeId} {N : Nat} {xs : List Value} {row : Option Nat} (h : Own w g t N xs) (hg : w.grownBy w' row) (hne : row ≠ some g) : Own w' g t N xs := by
  have hl := h.lt
  obtain ⟨cur, hh, hr⟩ := h
  exact ⟨cur, (hg.block g hl (fun e => hne e.symm)).trans hh, hr⟩
theorem infoRowI : (Tryd.prog.info? 94).map (fun i => (i.zero, i.size, i.bytes)) = some (some (.slice none 0 0), 1, 24) := by kernel_rfl
theorem getD_snocN {gs : List Nat} {g i : Nat} : (gs ++ [g]).getD i 0 = if i < gs.length then gs.getD i 0 else if i = gs.length then g else 0 := by
  rw [List.getD_eq_getElem?_getD, List.getD_eq_getElem?_getD]
  split
  · rename_i h; rw [List.getElem?_append_left h]
  · rename_i h
    rw [List.getElem?_append_right (by omega)]
    split
    · rename_i h2; subst h2; simp
    · rename_i h2
      rw [List.getElem?_eq_none (by simp; omega)]; rfl
theorem own_two (w : World) (a b : Int) : Own (w.alloc (.cells #[.int .i64 a, .int .i64 b] 2)) w.heap.size 2 2 [.int .i64 a, .int .i64 b] := by
  refine ⟨#[.int .i64 a, .int .i64 b], heap_alloc_new w _, rfl, by simp, fun j u hu => ?_⟩
  match j, hu with
  | 0, hu => simpa using hu
  | 1, hu => simpa using hu
  | j + 2, hu => simp at hu
set_option maxHeartbeats 1600000 in
theorem impl_blasts (k p q : Int) (n : Nat) (w : World) (hk : 1 ≤ k ∧ k ≤ 4) (hn : n ≤ 6) : Calls Tryd.prog 78 #[.agg #[.int .i64 k, .int .i64 (n : Int), .int .i64 p, .int .i64 q]] w fun e w' => ∃ A c gs, e = .returned (.slice A n c) ∧ gs.length = n ∧ Below w.heap.size w w' ∧ Sl w' w'.heap.size A (gs.map sv) ∧ BlG w' (lenF k) gs := by
  obtain ⟨j0, hj, je0, je1, je2⟩ := info_parts infoRowI
  have hL := fun w => impl_blast k w
  have hlb := lenF_bd hk
  generalize lenF k = m at hL hlb ⊢
  have hF := F4.new w k (n : Int) p q 56
  have hba : Below w.heap.size w (w.alloc (.cells #[.int .i64 k, .int .i64 (n : Int), .int .i64 p, .int .i64 q] 56)) := by go_grown
  have hO := (show ((w.alloc (.cells #[.int .i64 k, .int .i64 (n : Int), .int .i64 p, .int .i64 q] 56)).alloc (.cells #[] 94)).ownsRow (w.heap.size + 1) 94 1 (.slice (some ⟨w.heap.size + 1, 0, none⟩) 0 0) 0 [] from by
    have := World.ownsRow_made (w.alloc (.cells #[.int .i64 k, .int .i64 (n : Int), .int .i64 p, .int .i64 q] 56)) (e := 94) (size := 1) #[] 0 (Nat.le_refl _) (Nat.zero_le _) rfl
    simpa using this)
  go_enter Tryd.func78, Tryd.ntmps78
  go_wp2_with (go_at_call 122; refine (hL _).mono ?_; rintro e w' ⟨rfl, rfl⟩)
  have hB0 : Below w.heap.size w ((w.alloc (.cells #[.int .i64 k, .int .i64 (n : Int), .int .i64 p, .int .i64 q] 56)).alloc (.cells #[] 94)) := by go_grown
  go_loopw [3, 12] (fun lv iv wr => ∃ (i : Nat) (A : Option Addr) (c : Nat) (gs : List Nat), lv = .slice A i c ∧ iv = .int .i64 i ∧ i ≤ n ∧ gs.length = i ∧ Below w.heap.size w wr ∧ w.heap.size + 1 ≤ wr.heap.size ∧ wr.ownsRow (w.heap.size + 1) 94 1 (.slice A i c) i (gs.map sv) ∧ Hid (BlG wr m gs)) (fun _ iv _ => n - (intOf iv).toNat)
  case atStart => exact ⟨0, _, 0, [], rfl, rfl, Nat.zero_le _, rfl, hB0, by simp, hO, Lib.hid (fun i hi => by simp at hi)⟩
  case round =>
    clear hO hB0 hF hba
    obtain ⟨i, A, c, gs, rfl, rfl, hi, hgl, hBr, hsz, hO, hG⟩ := hrel
    by_cases hlt : i < n
    · have k1 := mul_bd (x := 2 * (i : Int)) (y := m) (B := 12) (C := 40) (by omega) (by omega) (by omega) (by omega)
      have k2 := mul_bd (x := 2 * (i : Int) + 1) (y := m) (B := 13) (C := 40) (by omega) (by omega) (by omega) (by omega)
      have e1 : Hid (2 * (i : Int) * m = bP m i ∧ (2 * (i : Int) + 1) * m = bP m i + m) := Lib.hid ⟨rfl, by unfold bP; grind⟩
      have hlg : i + 1 ≤ 1000 := by omega
      have hne : ∀ j, j < gs.length → (Value.slice A i c).ownBlock ≠ some (gs.getD j 0) := fun j hj => owns_type hO (hG.out j hj) (by decide)
      have hne' := Lib.hid hne
      clear hne
      go_wp2_with (at_builtin; refine wpList_append_own _ rfl _ _ 62 rfl (w.heap.size + 1) 94 j0 (.slice none 0 0) 1 24 Tryd.underlying62 hj je0 je1 je2 rfl (by decide) _ _ _ rfl ((hO.alloc _).alloc _) ⟨wr.heap.size + 1, 0, none⟩ 1 1 [sv wr.heap.size] rfl rfl ?ac1 ?ac2 ?ac3 ?ac4 ?ac5 ?_)
      try (case ac1 =>
        intro j u hj
        match j, hj with
        | 0, hj => simp at hj; subst hj; simp [Addr.add, sv, go_sem])
      try (case ac2 => intro u hu; simp at hu; subst hu; rfl)
      case ac3 => unfold maxLen; omega
      case ac4 => omega
      case ac5 => first | omega | (simp; omega)
      intro v' w5 hO5 hg5 _
      have ha : Below wr.heap.size wr ((wr.alloc (.cells #[.int .i64 (2 * (i : Int) * m), .int .i64 ((2 * (i : Int) + 1) * m)] 2)).alloc (.cells #[sv wr.heap.size] 94)) := by go_grown
      have hg5' : ((wr.alloc (.cells #[.int .i64 (2 * (i : Int) * m), .int .i64 ((2 * (i : Int) + 1) * m)] 2)).alloc (.cells #[sv wr.heap.size] 94)).grownBy w5 (Value.slice A i c).ownBlock := hg5
      obtain ⟨A2, c2, rfl, _⟩ := (Rs.of_owns hO5).sl
      have hlt2 := hO.lt
      have hB5 := (bnext hBr ha).grown hg5' (by simp; omega) (fun k e => by have := (hlt2 k e).1; omega)
      have hown : Own ((wr.alloc (.cells #[.int .i64 (2 * (i : Int) * m), .int .i64 ((2 * (i : Int) + 1) * m)] 2)).alloc (.cells #[sv wr.heap.size] 94)) wr.heap.size 2 2 [.int .i64 (2 * (i : Int) * m), .int .i64 ((2 * (i : Int) + 1) * m)] := (own_two wr _ _).on (by go_grown)
      have hG5 : Hid (BlG w5 m (gs ++ [wr.heap.size])) := Lib.hid (fun j hj => by
        rw [List.length_append, List.length_singleton] at hj
        rw [getD_snocN]
        by_cases h1 : j < gs.length
        · rw [if_pos h1]
          exact ((hG.out j h1).on ha).farO hg5' (hne'.out j h1)
        · rw [if_neg h1, if_pos (by omega)]
          obtain rfl : j = i := by omega
          rw [← e1.out.1]
          have e2 : 2 * (j : Int) * m + m = (2 * (j : Int) + 1) * m := by grind
          rw [e2]
          exact hown.farO hg5' (fun e => by have := (hlt2 _ e).2; omega))
      have hz5 := hg5'.size
      simp only [World.size_alloc] at hz5
      have hO5' : w5.ownsRow (w.heap.size + 1) 94 1 (.slice A2 (i + 1) c2) (i + 1) ((gs ++ [wr.heap.size]).map sv) := by rw [List.map_append]; exact hO5
      clear hO5 hg5 hg5' hown hO hG hne' ha hlt2 e1
      go_wp2_with fail
      go_roundw
      case rel => exact ⟨i + 1, A2, c2, gs ++ [wr.heap.size], by go_num, by go_num, by omega, by rw [List.length_append, hgl]; rfl, hB5, by omega, hO5', hG5⟩
      case measure => simp [intOf]; omega
    · obtain rfl : i = n := by omega
      obtain ⟨A2, c2, e2, hsl⟩ := (Rs.of_owns hO).sl
      cases e2
      go_wp2_with fail
      go_ret
      exact ⟨_, _, gs, rfl, hgl, hBr, hsl, hG.out⟩
theorem impl_BlastsOf (k p q : Int) (n : Nat) (w : World) (h : fogOk k (n : Int) p q = true) : Calls Tryd.prog 32 #[.agg #[.int .i64 k, .int .i64 (n : Int), .int .i64 p, .int .i64 q]] w fun e w' => ∃ A c, e = .returned (.tuple #[.slice A n c, .int .i64 0]) ∧ Below w.heap.size w w' := by
  have hV := fun w => impl_ValidFog k (n : Int) p q w
  simp only [h] at hV
  obtain ⟨h1, h2, _, _⟩ := fog_yes h
  have hbl := fun w => impl_blasts k p q n w h1 (by omega)
  have hF := F4.new w k (n : Int) p q 56
  have hba : Below w.heap.size w (w.alloc (.cells #[.int .i64 k, .int .i64 (n : Int), .int .i64 p, .int .i64 q] 56)) := by go_grown
  go_enter Tryd.func32, Tryd.ntmps32
  go_wp2_with fail
  refine (hV _).mono ?_
  rintro e w1 ⟨rfl, hb1⟩
  have hB1 := bnext hba hb1
  replace hF := hF.on hb1
  clear hb1 hba
  obtain ⟨_, f0, f1, f2, f3⟩ := id hF
  go_wp2_with fail
  refine (hbl _).mono ?_
  rintro e w2 ⟨A, c, gs, rfl, hgl, hb2, hsl, hG⟩
  go_wp2_with fail
  go_ret2
  exact ⟨A, c, rfl, bnext hB1 hb2⟩
def scC (k b p q t : Int) : Int := if fogOk k b p q then (if inB t 0 1000000000000 then 0 else 2) else 1
theorem sc_ok {k b p q t : Int} (h : scC k b p q t = 0) : fogOk k b p q = true ∧ 0 ≤ t ∧ t ≤ 1000000000000 := by
  unfold scC at h
  split at h
  · rename_i h1
    split at h
    · rename_i h2; exact ⟨h1, inB_yes.1 h2⟩
    · omega
  · omega
theorem impl_soundCode (k b p q t : Int) (w : World) : Calls Tryd.prog 77 #[.agg #[.int .i64 k, .int .i64 b, .int .i64 p, .int .i64 q], .int .i64 t] w fun e w' => e = .returned (.int .i64 (scC k b p q t)) ∧ Below w.heap.size w w' := by
  have hV := fun w => impl_ValidFog k b p q w
  have hW := fun w => within_any t 0 1000000000000 w
  have hba : Below w.heap.size w (w.alloc (.cells #[.int .i64 k, .int .i64 b, .int .i64 p, .int .i64 q] 56)) := by go_grown
  obtain ⟨C, hC⟩ : ∃ C, scC k b p q t = C := ⟨_, rfl⟩
  rw [hC]
  unfold scC at hC
  have hC' := Lib.hid hC
  clear hC
  cases h : fogOk k b p q
  · simp only [h] at hV
    go_enter Tryd.func77, Tryd.ntmps77
    go_wp2_with fail
    refine (hV _).mono ?_
    rintro e w1 ⟨rfl, hb1⟩
    go_wp2_with fail
    go_ret
    exact ⟨ret_int (by have := hC'.out; rw [h] at this; exact this), bnext hba hb1⟩
  · simp only [h] at hV
    cases h2 : inB t 0 1000000000000
    all_goals
      rw [h2] at hW
      go_enter Tryd.func77, Tryd.ntmps77
      go_wp2_with fail
      refine (hV _).mono ?_
      rintro e w1 ⟨rfl, hb1⟩
      go_wp2_with (go_at_call 61; refine (hW _).mono ?_; rintro e w' ⟨rfl, rfl⟩)
      go_ret
      exact ⟨ret_int (by have := hC'.out; rw [h, h2] at this; exact this), bnext hba hb1⟩
theorem sv_cell {w : World} {A : Option Addr} {gs : List Nat} (h : Sl w w.heap.size A (gs.map sv)) {i : Nat} (hi : i < gs.length) : ∃ b o, A = some ⟨b, o, none⟩ ∧ b < w.heap.size ∧ w.cell? ⟨b, o + i, none⟩ = some (.slice (some ⟨gs.getD i 0, 0, none⟩) 2 2) := by
  obtain ⟨b, o, e, hb, hc⟩ := h (by intro e; rw [List.map_eq_nil_iff] at e; subst e; simp at hi)
  refine ⟨b, o, e, hb, hc i _ ?_⟩
  rw [List.getElem?_map, List.getElem?_eq_getElem hi, List.getD_eq_getElem?_getD, List.getElem?_eq_getElem hi]
  rfl
set_option maxHeartbeats 1600000 in
theorem impl_SoundAt (k p q t : Int) (n m : Nat) (w : World) (h : fogOk k (n : Int) p q = true) (ht : 0 ≤ t ∧ t ≤ 1000000000000) (hm : m < n) (hs : t % p = bP (lenF k) m) : Calls Tryd.prog 31 #[.agg #[.int .i64 k, .int .i64 (n : Int), .int .i64 p, .int .i64 q], .int .i64 t] w fun e w' => e = .returned (.tuple #[.bool true, .int .i64 0]) ∧ Below w.heap.size w w' := by
  have hV := fun w => impl_soundCode k (n : Int) p q t w
  have hc : scC k (n : Int) p q t = 0 := by unfold scC; rw [h, inB_mk ht.1 ht.2]; rfl
  simp only [hc] at hV
  obtain ⟨h1, h2, h3, _⟩ := fog_yes h
  have hbl := fun w => impl_blasts k p q n w h1 (by omega)
  have hlb := lenF_bd h1
  have hle := least_bd h1 h2
  generalize lenF k = L at hbl hlb hs hle h3
  have hF := F4.new w k (n : Int) p q 56
  have hba : Below w.heap.size w (w.alloc (.cells #[.int .i64 k, .int .i64 (n : Int), .int .i64 p, .int .i64 q] 56)) := by go_grown
  have hp : 1 ≤ p := by omega
  have hmono := Lib.hid (fun i (h : i < m) => bP_mono (n := L) (by omega) h)
  have hnn := Lib.hid (fun i => bP_nonneg (n := L) (by omega) i)
  have hup := Lib.hid (fun i (h : i < n) => by
    have a := bP_mono (n := L) (by omega) (show i < n from h)
    have b : bP L n ≤ 480 := by
      have := Int.mul_le_mul (show 2 * (n : Int) ≤ 12 by omega) hlb.2 (by omega) (by omega)
      unfold bP; omega
    have : bP L i ≤ 480 := by omega
    exact this)
  have hmod : t.tmod p = bP L m := by rw [Int.tmod_eq_emod_of_nonneg ht.1]; exact hs
  clear h hc hs hle
  obtain ⟨M, hM⟩ : ∃ M, bP L m = M := ⟨_, rfl⟩
  have hM' := Lib.hid hM
  rw [hM] at hmod
  clear hM
  go_enter Tryd.func31, Tryd.ntmps31
  go_wp2_with fail
  refine (hV _).mono ?_
  rintro e w1 ⟨rfl, hb1⟩
  have hB1 := bnext hba hb1
  replace hF := hF.on hb1
  clear hb1 hba hV
  obtain ⟨_, f0, f1, f2, f3⟩ := id hF
  go_wp2_with fail
  refine (hbl _).mono ?_
  rintro e w2 ⟨A, c, gs, rfl, hgl, hb2, hsl, hG⟩
  have hB2 := bnext hB1 hb2
  replace hF := hF.on hb2
  have hsl' := Lib.hid hsl
  have hG' := Lib.hid hG
  clear hb2 hB1 hbl f0 f1 f2 f3 hsl hG
  go_wp2_with fail
  go_loopw [18] (fun iv wr => ∃ i : Nat, iv = .int .i64 i ∧ i ≤ m ∧ Below w2.heap.size w2 wr) (fun iv _ => n - (intOf iv).toNat)
  case atStart => exact ⟨0, rfl, Nat.zero_le _, Below.refl _ _⟩
  case round =>
    obtain ⟨i, rfl, hi, hbr⟩ := hrel
    have hBr := bnext hB2 hbr
    have hslr := (hsl'.out.below hbr).more hbr.size
    have hO := (hG'.out.on hbr) i (by omega)
    obtain ⟨b, o, rfl, hb, hc⟩ := sv_cell hslr (i := i) (by omega)
    have hFr := hF.on hbr
    obtain ⟨hfe, f0, f1, f2, f3⟩ := id hFr
    have hfl := hfe.1
    have x0 := hO.get (j := 0) rfl
    have x1 := hO.get (j := 1) rfl
    have hgl2 := hO.lt
    generalize gs.getD i 0 = g at hc x0 x1 hgl2
    have hin : (i : Int) < (n : Int) := by omega
    have hb0 := hnn.out i
    have hb1 := hup.out i (by omega)
    have hbi : i < m → bP L i + 2 * L ≤ M := fun h => by have := hmono.out i h; rw [hM'.out] at this; exact this
    have hbe : i = m → bP L i = M := fun h => by rw [h]; exact hM'.out
    have hbi' := Lib.hid hbi
    have hbe' := Lib.hid hbe
    clear hbi hbe
    generalize bP L i = P at x0 x1 hb0 hb1 hbi' hbe'
    have hw1 : IntKind.i64.wrap (P + L - 1) = P + L - 1 := IntWalk.i64_in _ (by omega)
    have hW := fun w => within_any M P (P + L - 1) w
    by_cases he : i = m
    · have hPM := hbe'.out he
      subst hPM
      have he' := Lib.hid he
      clear he
      rw [inB_mk (by omega) (by omega)] at hW
      go_wp2_with fail
      refine wp_region_grew (by kernel_rfl) (by kernel_rfl) ?_
      repeat (first | (go_big_quiet_step ((go_at_call 61; exact grew_same (hW _)))) | (quiet_step ((go_at_call 61; exact grew_same (hW _)))))
      refine wpQuiet_nil ?_
      rintro _ ⟨⟨w9, hb9⟩, rfl⟩
      try dsimp only
      obtain ⟨hc9, hf9⟩ := bcell hb9
      go_wp2_with fail
      go_ret2
      exact ⟨rfl, bnext hBr hb9⟩
    · have := hbi'.out (by omega)
      rw [inB_un (by omega)] at hW
      go_wp2_with fail
      refine wp_region_grew (by kernel_rfl) (by kernel_rfl) ?_
      repeat (first | (go_big_quiet_step ((go_at_call 61; exact grew_same (hW _)))) | (quiet_step ((go_at_call 61; exact grew_same (hW _)))))
      refine wpQuiet_nil ?_
      rintro _ ⟨⟨w9, hb9⟩, rfl⟩
      try dsimp only
      obtain ⟨hc9, hf9⟩ := bcell hb9
      go_wp2_with fail
      go_roundw
      case rel => exact ⟨i + 1, by go_num, by omega, bnext hbr hb9⟩
      case measure => simp [intOf]; omega
def NextOk (k p t : Int) (n : Nat) (x : Int) : Prop := t ≤ x ∧ x < t + p ∧ ∃ m, m < n ∧ x % p = bP (lenF k) m
set_option maxHeartbeats 1600000 in
theorem impl_NextBlast (k b p q t : Int) (w : World) : Calls Tryd.prog 30 #[.agg #[.int .i64 k, .int .i64 b, .int .i64 p, .int .i64 q], .int .i64 t] w fun e w' => ∃ x cd : Int, e = .returned (.tuple #[.int .i64 x, .int .i64 cd]) ∧ Below w.heap.size w w' ∧ (cd ≠ 0 ∨ (cd = 0 ∧ fogOk k b p q = true ∧ (0 ≤ t ∧ t ≤ 1000000000000) ∧ ∃ n : Nat, b = n ∧ NextOk k p t n x)) := by
  have hV := fun w => impl_soundCode k b p q t w
  have hF := F4.new w k b p q 56
  have hba : Below w.heap.size w (w.alloc (.cells #[.int .i64 k, .int .i64 b, .int .i64 p, .int .i64 q] 56)) := by go_grown
  by_cases hc : scC k b p q t = 0
  rotate_left
  · have hc2 : (scC k b p q t != 0) = true := by simpa using hc
    generalize scC k b p q t = C at hV hc hc2
    go_enter Tryd.func30, Tryd.ntmps30
    go_wp2_with fail
    refine (hV _).mono ?_
    rintro e w1 ⟨rfl, hb1⟩
    go_wp2_with fail
    go_ret2
    exact ⟨0, C, rfl, bnext hba hb1, .inl hc⟩
  simp only [hc] at hV
  obtain ⟨h, ht⟩ := sc_ok hc
  clear hc
  obtain ⟨h1, h2, h3, _⟩ := fog_yes h
  obtain ⟨n, rfl⟩ := Int.eq_ofNat_of_zero_le (show 0 ≤ b by omega)
  have hbl := fun w => impl_blasts k p q n w h1 (by omega)
  have hlb := lenF_bd h1
  have hle := least_bd h1 h2
  have hNk : Hid (∀ x, (t ≤ x ∧ x < t + p ∧ ∃ m, m < n ∧ x % p = bP (lenF k) m) → NextOk k p t n x) := Lib.hid (fun x h => h)
  have hh := Lib.hid h
  clear h
  generalize lenF k = L at hbl hlb hle h3 hNk
  have hp : 1 ≤ p := by omega
  have hbn : bP L n = 2 * (n : Int) * L := rfl
  have hsucc := Lib.hid (bP_succ L)
  have hmono := Lib.hid (fun i (h : i < n) => bP_mono (n := L) (by omega) h)
  have hnn := Lib.hid (fun i => bP_nonneg (n := L) (by omega) i)
  rw [← hbn] at h3 hle
  have hpl := Lib.hid h3
  obtain ⟨N, hN⟩ : ∃ N, bP L n = N := ⟨_, rfl⟩
  rw [hN] at h3 hle
  have hN' := Lib.hid hN
  clear hN hbn
  have hmod : t.tmod p = t % p := Int.tmod_eq_emod_of_nonneg ht.1
  have hr := Int.emod_nonneg t (show p ≠ 0 by omega)
  have hr2 := Int.emod_lt_of_pos t (show 0 < p by omega)
  have hdv : Hid (∀ y, 0 ≤ y → y < p → (t - t % p + y) % p = y) := Lib.hid (fun y h0 h1 => by
    have e : t - t % p = p * (t / p) := by have := Int.mul_ediv_add_emod t p; omega
    rw [e, Int.add_comm, Int.add_mul_emod_self_left, Int.emod_eq_of_lt h0 h1])
  obtain ⟨r, hre⟩ : ∃ r, t % p = r := ⟨_, rfl⟩
  rw [hre] at hmod hr hr2 hdv
  clear hre
  have hr3 : r ≤ t := by
    rcases (by omega : r ≤ t ∨ t < r) with h | h
    · exact h
    · exfalso
      have h5 : t % p = t := Int.emod_eq_of_lt ht.1 (by omega)
      rw [Int.tmod_eq_emod_of_nonneg ht.1] at hmod
      omega
  have hw1 : IntKind.i64.wrap (t - r) = t - r := IntWalk.i64_in _ (by omega)
  go_enter Tryd.func30, Tryd.ntmps30
  go_wp2_with fail
  refine (hV _).mono ?_
  rintro e w1 ⟨rfl, hb1⟩
  have hB1 := bnext hba hb1
  replace hF := hF.on hb1
  clear hb1 hba hV
  obtain ⟨_, f0, f1, f2, f3⟩ := id hF
  go_wp2_with fail
  refine (hbl _).mono ?_
  rintro e w2 ⟨A, c, gs, rfl, hgl, hb2, hsl, hG⟩
  have hB2 := bnext hB1 hb2
  replace hF := hF.on hb2
  have hsl' := Lib.hid hsl
  have hG' := Lib.hid hG
  clear hb2 hB1 hbl f0 f1 f2 f3 hsl hG
  go_wp2_with fail
  go_loopw [25] (fun iv wr => ∃ i : Nat, iv = .int .i64 i ∧ i ≤ n ∧ Hid (∀ j, j < i → t - r + bP L j < t) ∧ Below w2.heap.size w2 wr) (fun iv _ => n - (intOf iv).toNat)
  case atStart => exact ⟨0, rfl, Nat.zero_le _, Lib.hid (fun j hj => by omega), Below.refl _ _⟩
  case round =>
    obtain ⟨i, rfl, hi, hlow, hbr⟩ := hrel
    have hBr := bnext hB2 hbr
    have hFr := hF.on hbr
    obtain ⟨_, f0, f1, f2, f3⟩ := id hFr
    by_cases hlt : i < n
    · have hslr := (hsl'.out.below hbr).more hbr.size
      have hO := (hG'.out.on hbr) i (by omega)
      obtain ⟨b, o, rfl, hb, hc⟩ := sv_cell hslr (i := i) (by omega)
      have x0 := hO.get (j := 0) rfl
      have hgl2 := hO.lt
      generalize gs.getD i 0 = g at hc x0 hgl2
      have hin : (i : Int) < (n : Int) := by omega
      have hb0 := hnn.out i
      have hb1 : bP L i + 2 * L ≤ N := by have := hmono.out i hlt; rw [hN'.out] at this; exact this
      have hpv : 1 ≤ i → t - r + bP L i < t + 2 * L := fun h => by
        obtain ⟨j, rfl⟩ : ∃ j, i = j + 1 := ⟨i - 1, by omega⟩
        have a := hlow.out j (by omega)
        rw [hsucc.out]; omega
      have hz0 : i = 0 → bP L i = 0 := fun h => by subst h; exact bP_zero L
      have hfin : Hid (t ≤ t - r + bP L i → NextOk k p t n (t - r + bP L i)) := Lib.hid (fun h => hNk.out _ ⟨h, by
        rcases (by omega : i = 0 ∨ 1 ≤ i) with h0 | h0
        · have := hz0 h0; omega
        · have := hpv h0; omega, i, hlt, hdv.out _ hb0 (by omega)⟩)
      have hlo2 : Hid (¬ t ≤ t - r + bP L i → ∀ j, j < i + 1 → t - r + bP L j < t) := Lib.hid (fun h j hj => by
        rcases (by omega : j < i ∨ j = i) with h0 | rfl
        · exact hlow.out j h0
        · omega)
      clear hpv hz0
      generalize bP L i = P at x0 hb0 hb1 hfin hlo2
      have hw2 : IntKind.i64.wrap (t - r + P) = t - r + P := IntWalk.i64_in _ (by omega)
      by_cases hq : t ≤ t - r + P
      · go_wp2_with fail
        go_ret2
        first | exact ⟨t - r + P, 0, rfl, hBr, .inr ⟨rfl, hh.out, ht, n, rfl, hfin.out hq⟩⟩ | exact ⟨t - r + P, 0, rfl, hBr, .inr ⟨rfl, hh.out, n, rfl, hfin.out hq⟩⟩
      · go_wp2_with fail
        go_roundw
        case rel => exact ⟨i + 1, by go_num, by omega, Lib.hid (hlo2.out hq), hbr⟩
        case measure => simp [intOf]; omega
    · obtain rfl : i = n := by omega
      have hn0 : 1 ≤ i := by omega
      have hfin : Hid (NextOk k p t i (t - r + p)) := Lib.hid (hNk.out _ ⟨by omega, by have := hlow.out 0 (by omega); rw [bP_zero] at this; omega, 0, by omega, by rw [bP_zero]; have := hdv.out 0 (by omega) (by omega); rw [show t - r + p = t - r + 0 + p by omega, Int.add_emod_right]; exact this⟩)
      have hw2 : IntKind.i64.wrap (t - r + p) = t - r + p := IntWalk.i64_in _ (by omega)
      go_wp2_with fail
      go_ret2
      first | exact ⟨t - r + p, 0, rfl, hBr, .inr ⟨rfl, hh.out, ht, i, rfl, hfin.out⟩⟩ | exact ⟨t - r + p, 0, rfl, hBr, .inr ⟨rfl, hh.out, i, rfl, hfin.out⟩⟩
theorem impl_SoundAt_no (k b p q t : Int) (w : World) (h : scC k b p q t ≠ 0) : Calls Tryd.prog 31 #[.agg #[.int .i64 k, .int .i64 b, .int .i64 p, .int .i64 q], .int .i64 t] w fun e w' => e = .returned (.tuple #[.bool false, .int .i64 (scC k b p q t)]) ∧ Below w.heap.size w w' := by
  have hV := fun w => impl_soundCode k b p q t w
  have hba : Below w.heap.size w (w.alloc (.cells #[.int .i64 k, .int .i64 b, .int .i64 p, .int .i64 q] 56)) := by go_grown
  have hc2 : (scC k b p q t != 0) = true := by simpa using h
  generalize scC k b p q t = C at hV h hc2 ⊢
  go_enter Tryd.func31, Tryd.ntmps31
  go_wp2_with fail
  refine (hV _).mono ?_
  rintro e w1 ⟨rfl, hb1⟩
  go_wp2_with fail
  go_ret2
  exact ⟨rfl, bnext hba hb1⟩
end Go.Proofs.YtbikppndhidbpaaDoor

/-
  Contracts of the texts of fog signals: written and read back. Under the conditions that each states.
-/
set_option linter.unusedVariables false
set_option linter.unnecessarySimpa false
set_option maxRecDepth 100000
set_option linter.unusedSimpArgs false
namespace Go.Proofs.YtbikppndhidbpaaDoor
open Go.RowKit BigFrame Go.Deep

/-! ### Texts cut at a byte -/
theorem ib_free {c : UInt8} : ∀ {l : List UInt8}, c ∉ l → Lib.indexByte l c = -1
  | [], _ => rfl
  | b :: l, h => by
    have hb : (b == c) = false := beq_eq_false_iff_ne.2 (fun e => h (by simp [e]))
    have ih := ib_free (c := c) (l := l) (fun hm => h (by simp [hm]))
    unfold Lib.indexByte
    rw [hb, ih]
    rfl
theorem ib_app {c : UInt8} : ∀ {a : List UInt8} (b : List UInt8), c ∉ a → Lib.indexByte (a ++ c :: b) c = a.length
  | [], b, _ => by unfold Lib.indexByte; simp
  | x :: a, b, h => by
    have hb : (x == c) = false := beq_eq_false_iff_ne.2 (fun e => h (by simp [e]))
    have ih := ib_app (c := c) (a := a) b (fun hm => h (by simp [hm]))
    rw [List.cons_append]
    unfold Lib.indexByte
    rw [hb, ih]
    have e : ((a.length : Int) == -1) = false := beq_eq_false_iff_ne.2 (by omega)
    simp [e]
theorem cut_free {c : UInt8} {l : List UInt8} (h : c ∉ l) : Lib.cut l [c] = (l, [], false) := by
  unfold Lib.cut
  rw [Lib.index_one l c, ib_free h]
  rfl
theorem cut_app {c : UInt8} {a : List UInt8} (b : List UInt8) (h : c ∉ a) : Lib.cut (a ++ c :: b) [c] = (a, b, true) := by
  unfold Lib.cut
  rw [Lib.index_one _ c, ib_app b h]
  rw [if_pos (by omega)]
  simp
theorem trim_app (l : List UInt8) (x : UInt8) : Lib.trimSuffix (l ++ [x]) [x] = l := by
  unfold Lib.trimSuffix Lib.hasSuffix
  simp
/-! ### Seconds -/
def secT (n : Int) : ByteArray := if n % 10 = 0 then decT (n / 10) else decT (n / 10) ++ ⟨#[46]⟩ ++ decT (n % 10)
theorem dec_free {v : Int} (h1 : -100000000000000000 < v) (h2 : v < 100000000000000000) (c : UInt8) (hc : isD c = false) (h45 : c ≠ 45) : c ∉ (decT v).data.toList := num_free (dec_bk h1 h2).1 c hc h45
theorem secT_size {n : Int} (h : 0 ≤ n ∧ n ≤ 12000) : (secT n).size ≤ 100 := by
  have a := decT_size (n := n / 10) (by omega) (by omega)
  have b := decT_size (n := n % 10) (by omega) (by omega)
  unfold secT
  split
  · omega
  · rw [ByteArray.size_append, ByteArray.size_append]
    have e : (⟨#[46]⟩ : ByteArray).size = 1 := rfl
    omega
theorem secT_free {n : Int} (h : 0 ≤ n ∧ n ≤ 12000) (c : UInt8) (hc : isD c = false) (h45 : c ≠ 45) (h46 : c ≠ 46) : c ∉ (secT n).data.toList := by
  have a := dec_free (v := n / 10) (by omega) (by omega) c hc h45
  have b := dec_free (v := n % 10) (by omega) (by omega) c hc h45
  unfold secT
  split
  · exact a
  · simp only [ByteArray.data_append, Array.toList_append, List.mem_append]
    intro hm
    rcases hm with (hm | hm) | hm
    · exact a hm
    · simp at hm; exact h46 hm
    · exact b hm
theorem impl_secT (n : Int) (w : World) (h : 0 ≤ n ∧ n ≤ 12000) (ht : Tab w) : Calls Tryd.prog 84 #[.int .i64 n] w fun e w' => e = .returned (.string (secT n)) ∧ Below w.heap.size w w' := by
  have hD := fun w2 (hb : Below w.heap.size w w2) => impl_Dec (n / 10) (by omega) (by omega) w2 (ht.on hb)
  have hM := fun w2 (hb : Below w.heap.size w w2) => impl_Dec (n % 10) (by omega) (by omega) w2 (ht.on hb)
  have s1 := decT_size (n := n / 10) (by omega) (by omega)
  have s2 := decT_size (n := n % 10) (by omega) (by omega)
  have e1 : n.tdiv 10 = n / 10 := Int.tdiv_eq_ediv_of_nonneg h.1
  have e2 : n.tmod 10 = n % 10 := Int.tmod_eq_emod_of_nonneg h.1
  have hV : Hid (secT n = if n % 10 = 0 then decT (n / 10) else decT (n / 10) ++ ⟨#[46]⟩ ++ decT (n % 10)) := Lib.hid rfl
  by_cases h0 : n % 10 = 0
  · have hV2 : Hid (secT n = decT (n / 10)) := Lib.hid (by rw [hV.out, if_pos h0])
    generalize decT (n / 10) = a at hD s1 hV2
    clear hM s2 hV
    go_enter Tryd.func84, Tryd.ntmps84
    go_wp2_with fail
    refine (hD _ (Below.refl _ _)).mono ?_
    rintro e w1 ⟨rfl, hb1⟩
    go_wp2
    go_ret
    exact ⟨ret_str hV2.out.symm, hb1⟩
  · have hV2 : Hid (secT n = decT (n / 10) ++ ⟨#[46]⟩ ++ decT (n % 10)) := Lib.hid (by rw [hV.out, if_neg h0])
    generalize decT (n / 10) = a at hD s1 hV2
    generalize decT (n % 10) = b at hM s2 hV2
    have nb1 := noB (n := a.size + 1) (by omega)
    have nb2 := noB (n := a.size + 1 + b.size) (by omega)
    clear hV
    go_enter Tryd.func84, Tryd.ntmps84
    go_wp2_with fail
    refine (hD _ (Below.refl _ _)).mono ?_
    rintro e w1 ⟨rfl, hb1⟩
    go_wp2_with fail
    refine (hM _ hb1).mono ?_
    rintro e w2 ⟨rfl, hb2⟩
    go_wp2
    go_ret
    exact ⟨ret_str hV2.out.symm, bnext hb1 hb2⟩
set_option maxHeartbeats 800000 in
theorem impl_rdSec (n : Int) (w : World) (h : 0 ≤ n ∧ n ≤ 1200) (hE : Env w) : Calls Tryd.prog 82 #[.string (secT n)] w fun e w' => e = .returned (.tuple #[.int .i64 n, .bool true]) ∧ Below w.heap.size w w' := by
  obtain ⟨m, hm⟩ := hE.big
  have hsz := secT_size (n := n) (by omega)
  have hcut := sr_strings_Cut (secT n) ⟨#[46]⟩ m w (by omega) hm
  obtain ⟨a1, a2, a3⟩ := dec_bk (v := n / 10) (by omega) (by omega)
  obtain ⟨b1, b2, b3⟩ := dec_bk (v := n % 10) (by omega) (by omega)
  obtain ⟨z1, z2, z3⟩ := dec_bk (v := 0) (by omega) (by omega)
  have s1 := decT_size (n := n / 10) (by omega) (by omega)
  have s2 := decT_size (n := n % 10) (by omega) (by omega)
  have f1 := dec_free (v := n / 10) (by omega) (by omega) 46 (by decide) (by decide)
  have hA := fun w2 (hb : Below w.heap.size w w2) => impl_RDec (decT (n / 10)) (by omega) w2 (hE.on hb)
  have hT := fun w2 (hb : Below w.heap.size w w2) => impl_secT n w2 (by omega) (hE.on hb).tab
  have rdk : ∀ v : Int, rdOk (decT v) = numOk (decT v).data.toList := fun v => rfl
  have rdv : ∀ v : Int, rdV (decT v) = rdV (ba (decT v).data.toList) := fun v => by rw [← ba_data]
  simp only [rdk, rdv, a1, a3] at hA
  have w1 := within_any (n / 10) 0 1200
  rw [inB_mk (by omega) (by omega)] at w1
  have w2 := within_any (n % 10) 0 9
  rw [inB_mk (by omega) (by omega)] at w2
  have hq : ((secT n).toList == (secT n).toList) = true := beq_self_eq_true _
  by_cases h0 : n % 10 = 0
  · have e : secT n = decT (n / 10) := by unfold secT; rw [if_pos h0]
    have hl : (⟨#[46]⟩ : ByteArray).data.toList = [46] := rfl
    rw [hl, e, cut_free f1] at hcut
    have hB := fun w2 (hb : Below w.heap.size w w2) => impl_RDec ⟨#[48]⟩ (by decide) w2 (hE.on hb)
    have z0 : (⟨#[48]⟩ : ByteArray) = decT 0 := decT_zero.symm
    have r1 : rdV ⟨#[48]⟩ = 0 := by rw [z0, rdv, z3]
    have r2 : rdOk ⟨#[48]⟩ = true := by rw [z0, rdk, z1]
    simp only [r1, r2] at hB
    rw [h0] at w2
    have hcut' : Calls Tryd.prog 72 #[.string (decT (n / 10)), .string ⟨#[46]⟩] w fun e w' => e = .returned (.tuple #[.string (decT (n / 10)), .string ⟨#[]⟩, .bool false]) ∧ Below w.heap.size w w' := hcut.mono (fun e w' ⟨he, q, hw⟩ => ⟨by rw [he], by rw [hw]; exact below_drewN (Below.refl _ _) q⟩)
    have hV : Hid (10 * (n / 10) + 0 = n) := Lib.hid (by omega)
    rw [e] at hT hq ⊢
    clear hcut e a1 a2 a3 b1 b2 b3 f1 rdk rdv z0 z1 z2 z3 r1 r2 h0 hl
    generalize decT (n / 10) = s at hA hT hq s1 hcut'
    obtain ⟨a, ha⟩ : ∃ a, n / 10 = a := ⟨_, rfl⟩
    rw [ha] at hA w1 hV
    have hab : 0 ≤ a ∧ a ≤ 120 := by omega
    have hT' := hT
    have hn' : Hid (10 * a = n) := Lib.hid (by have := hV.out; omega)
    rw [← hn'.out] at hT
    clear ha
    go_enter Tryd.func82, Tryd.ntmps82
    go_wp2_with fail
    refine hcut'.mono ?_
    rintro e w3 ⟨rfl, hb3⟩
    go_wp2_with fail
    refine (hA _ hb3).mono ?_
    rintro e w4 ⟨rfl, hb4⟩
    have hB4 := bnext hb3 hb4
    go_wp2_with fail
    refine (hB _ hB4).mono ?_
    rintro e w5 ⟨rfl, hb5⟩
    have hB5 := bnext hB4 hb5
    go_wp2_with (first | (go_at_call 61; with_reducible refine (w1 _).mono ?_; rintro e w' ⟨rfl, rfl⟩) | (go_at_call 61; with_reducible refine (w2 _).mono ?_; rintro e w' ⟨rfl, rfl⟩))
    refine (hT _ hB5).mono ?_
    rintro e w6 ⟨rfl, hb6⟩
    go_wp2
    go_ret2
    exact ⟨by rw [hn'.out] <;> rfl, bnext hB5 hb6⟩
  · have e : secT n = decT (n / 10) ++ ⟨#[46]⟩ ++ decT (n % 10) := by unfold secT; rw [if_neg h0]
    have hl : (⟨#[46]⟩ : ByteArray).data.toList = [46] := rfl
    have el : (secT n).data.toList = (decT (n / 10)).data.toList ++ 46 :: (decT (n % 10)).data.toList := by rw [e]; simp [ByteArray.data_append]
    rw [hl, el, cut_app _ f1] at hcut
    have hB := fun w2 (hb : Below w.heap.size w w2) => impl_RDec (decT (n % 10)) (by omega) w2 (hE.on hb)
    simp only [rdk, rdv, b1, b3] at hB
    have hcut' : Calls Tryd.prog 72 #[.string (secT n), .string ⟨#[46]⟩] w fun e w' => e = .returned (.tuple #[.string (decT (n / 10)), .string (decT (n % 10)), .bool true]) ∧ Below w.heap.size w w' := hcut.mono (fun e w' ⟨he, q, hw⟩ => ⟨by rw [he], by rw [hw]; exact below_drewN (Below.refl _ _) q⟩)
    have hn' : Hid (10 * (n / 10) + n % 10 = n) := Lib.hid (by omega)
    clear hcut e el a1 a2 a3 b1 b2 b3 f1 rdk rdv z1 z2 z3 h0 hl
    generalize decT (n / 10) = s at hA s1 hcut'
    generalize decT (n % 10) = s' at hB s2 hcut'
    obtain ⟨a, ha⟩ : ∃ a, n / 10 = a := ⟨_, rfl⟩
    obtain ⟨b, hb⟩ : ∃ b, n % 10 = b := ⟨_, rfl⟩
    rw [ha] at hA w1 hn'
    rw [hb] at hB w2 hn'
    have hab : (0 ≤ a ∧ a ≤ 120) ∧ 0 ≤ b ∧ b ≤ 9 := by omega
    generalize secT n = S at hcut' hT hq hsz ⊢
    have hT' : ∀ w2, Below w.heap.size w w2 → Calls Tryd.prog 84 #[.int .i64 (10 * a + b)] w2 (fun e w' => e = .returned (.string S) ∧ Below w2.heap.size w2 w') := fun w2 hbb => by rw [hn'.out]; exact hT w2 hbb
    clear ha hb hT
    rw [← hn'.out]
    clear h
    go_enter Tryd.func82, Tryd.ntmps82
    go_wp2_with fail
    refine hcut'.mono ?_
    rintro e w3 ⟨rfl, hb3⟩
    go_wp2_with fail
    refine (hA _ hb3).mono ?_
    rintro e w4 ⟨rfl, hb4⟩
    have hB4 := bnext hb3 hb4
    go_wp2_with fail
    refine (hB _ hB4).mono ?_
    rintro e w5 ⟨rfl, hb5⟩
    have hB5 := bnext hB4 hb5
    go_wp2_with (first | (go_at_call 61; with_reducible refine (w1 _).mono ?_; rintro e w' ⟨rfl, rfl⟩) | (go_at_call 61; with_reducible refine (w2 _).mono ?_; rintro e w' ⟨rfl, rfl⟩))
    refine (hT' _ hB5).mono ?_
    rintro e w6 ⟨rfl, hb6⟩
    go_wp2
    go_ret2
    exact ⟨rfl, bnext hB5 hb6⟩
def fogNames : List ByteArray := [⟨#[]⟩, ⟨#[72, 111, 114, 110]⟩, ⟨#[83, 105, 114, 101, 110]⟩, ⟨#[66, 101, 108, 108]⟩, ⟨#[87, 104, 105, 115]⟩]
def fogN (k : Int) : ByteArray := pickS k fogNames
theorem impl_FogName (n : Int) (w : World) : Calls Tryd.prog 83 #[.int .i64 n] w fun e w' => e = .returned (.string (fogN n)) ∧ Below w.heap.size w w' := by
  have hs := Sl.new w #[.string ⟨#[]⟩, .string ⟨#[72, 111, 114, 110]⟩, .string ⟨#[83, 105, 114, 101, 110]⟩, .string ⟨#[66, 101, 108, 108]⟩, .string ⟨#[87, 104, 105, 115]⟩] 9
  go_enter Tryd.func83, Tryd.ntmps83
  go_wp2_with fail
  refine (pick_any n fogNames _ _ _ _ hs (by decide)).mono ?_
  rintro e w' ⟨rfl, rfl⟩
  go_wp2_with fail
  go_ret
  exact ⟨ret_str rfl, by go_grown⟩
theorem fogN_facts {k : Int} (h : 1 ≤ k ∧ k ≤ 4) : (fogN k).size ≤ 5 ∧ (32 : UInt8) ∉ (fogN k).data.toList ∧ (40 : UInt8) ∉ (fogN k).data.toList ∧ (fogN k).data.toList ≠ [] := by
  rcases (by omega : k = 1 ∨ k = 2 ∨ k = 3 ∨ k = 4) with rfl | rfl | rfl | rfl <;> decide +kernel
theorem fogN_eq {i k : Int} (h : 1 ≤ k ∧ k ≤ 4) (hi : 1 ≤ i ∧ i ≤ 4) : ((fogN i).toList == (fogN k).toList) = decide (i = k) := by
  rw [ByteArray.toList_eq, ByteArray.toList_eq]
  rcases (by omega : k = 1 ∨ k = 2 ∨ k = 3 ∨ k = 4) with rfl | rfl | rfl | rfl <;> rcases (by omega : i = 1 ∨ i = 2 ∨ i = 3 ∨ i = 4) with rfl | rfl | rfl | rfl <;> decide +kernel
/-- The text of a kind and its blasts. -/
def fogH (k b : Int) : ByteArray := if 1 < b then fogN k ++ (⟨#[40]⟩ ++ decT b ++ ⟨#[41]⟩) else fogN k
def fogT (k b p q : Int) : ByteArray := fogH k b ++ ⟨#[32]⟩ ++ secT p ++ ⟨#[115, 32]⟩ ++ decT q
theorem fogH_size {k b : Int} (hk : 1 ≤ k ∧ k ≤ 4) (hb : 1 ≤ b ∧ b ≤ 6) : (fogH k b).size ≤ 40 := by
  have a := (fogN_facts hk).1
  have s := decT_size (n := b) (by omega) (by omega)
  unfold fogH
  split
  · rw [ByteArray.size_append, ByteArray.size_append, ByteArray.size_append]
    have e : (⟨#[40]⟩ : ByteArray).size = 1 := rfl
    have e2 : (⟨#[41]⟩ : ByteArray).size = 1 := rfl
    omega
  · omega
theorem fogT_size {k b p q : Int} (h : fogOk k b p q = true) : (fogT k b p q).size ≤ 300 := by
  obtain ⟨h1, h2, h3, h4⟩ := fog_yes h
  have a := fogH_size h1 h2
  have hl := least_bd h1 h2
  have s := secT_size (n := p) (by omega)
  have d := decT_size (n := q) (by omega) (by omega)
  unfold fogT
  rw [ByteArray.size_append, ByteArray.size_append, ByteArray.size_append, ByteArray.size_append]
  have e : (⟨#[32]⟩ : ByteArray).size = 1 := rfl
  have e2 : (⟨#[115, 32]⟩ : ByteArray).size = 2 := rfl
  omega
/-- The words of the text of a fog signal. -/
theorem fog_words {k b p q : Int} (h : fogOk k b p q = true) : wordsL (fogT k b p q).data.toList = [(fogH k b).data.toList, (secT p).data.toList ++ [115], (decT q).data.toList] := by
  obtain ⟨h1, h2, h3, h4⟩ := fog_yes h
  have hl := least_bd h1 h2
  obtain ⟨n1, n2, n3, n4⟩ := fogN_facts h1
  have d1 := dec_free (v := b) (by omega) (by omega) 32 (by decide) (by decide)
  have d2 := dec_free (v := q) (by omega) (by omega) 32 (by decide) (by decide)
  have s1 := secT_free (n := p) (by omega) 32 (by decide) (by decide) (by decide)
  have dq := (num_free2 (dec_bk (v := q) (by omega) (by omega)).1).2
  have hH : (32 : UInt8) ∉ (fogH k b).data.toList ∧ (fogH k b).data.toList ≠ [] := by
    unfold fogH
    split
    · simp only [ByteArray.data_append, Array.toList_append, List.mem_append]
      refine ⟨?_, by intro e; simp at e⟩
      intro hm
      rcases hm with hm | (hm | hm) | hm
      · exact n2 hm
      · simp at hm
      · exact d1 hm
      · simp at hm
    · exact ⟨n2, n4⟩
  have e : (fogT k b p q).data.toList = (fogH k b).data.toList ++ 32 :: (((secT p).data.toList ++ [115]) ++ 32 :: (decT q).data.toList) := by
    unfold fogT
    simp [ByteArray.data_append]
  have hs : splitL 32 (fogT k b p q).data.toList = [(fogH k b).data.toList, (secT p).data.toList ++ [115], (decT q).data.toList] := by
    rw [e, split_app _ hH.1, split_app _ (by
      intro hm
      rcases List.mem_append.1 hm with hm | hm
      · exact s1 hm
      · simp at hm), split_free d2]
  rw [words_all (by
    rw [hs]
    intro x hx
    simp at hx
    rcases hx with rfl | rfl | rfl
    · exact hH.2
    · simp
    · exact dq), hs]
set_option maxHeartbeats 800000 in
theorem impl_FogText (k b p q : Int) (w : World) (h : fogOk k b p q = true) (ht : Tab w) : Calls Tryd.prog 34 #[.agg #[.int .i64 k, .int .i64 b, .int .i64 p, .int .i64 q]] w fun e w' => e = .returned (.string (fogT k b p q)) ∧ Below w.heap.size w w' := by
  have hV := fun w => impl_ValidFog k b p q w
  simp only [h] at hV
  obtain ⟨h1, h2, h3, h4⟩ := fog_yes h
  have hl := least_bd h1 h2
  have hF := F4.new w k b p q 56
  have hba : Below w.heap.size w (w.alloc (.cells #[.int .i64 k, .int .i64 b, .int .i64 p, .int .i64 q] 56)) := by go_grown
  have hN := fun w => impl_FogName k w
  have hD := fun w2 (hb : Below w.heap.size w w2) => impl_Dec b (by omega) (by omega) w2 (ht.on hb)
  have hQ := fun w2 (hb : Below w.heap.size w w2) => impl_Dec q (by omega) (by omega) w2 (ht.on hb)
  have hS := fun w2 (hb : Below w.heap.size w w2) => impl_secT p w2 (by omega) (ht.on hb)
  have z1 := (fogN_facts h1).1
  have z2 := decT_size (n := b) (by omega) (by omega)
  have z3 := decT_size (n := q) (by omega) (by omega)
  have z4 := secT_size (n := p) (by omega)
  have hT : Hid (fogT k b p q = fogH k b ++ ⟨#[32]⟩ ++ secT p ++ ⟨#[115, 32]⟩ ++ decT q) := Lib.hid rfl
  have hH : Hid (fogH k b = if 1 < b then fogN k ++ (⟨#[40]⟩ ++ decT b ++ ⟨#[41]⟩) else fogN k) := Lib.hid rfl
  generalize decT q = dq at hQ z3 hT
  generalize decT b = db at hD z2 hH
  generalize secT p = sp at hS z4 hT
  generalize fogN k = nm at hN z1 hH
  clear h
  go_enter Tryd.func34, Tryd.ntmps34
  go_wp2_with fail
  refine (hV _).mono ?_
  rintro e w1 ⟨rfl, hb1⟩
  have hB1 := bnext hba hb1
  replace hF := hF.on hb1
  clear hb1 hba hV
  obtain ⟨hfe, f0, f1, f2, f3⟩ := id hF
  have hfl := hfe.1
  go_wp2_with fail
  refine (hN _).mono ?_
  rintro e w2 ⟨rfl, hb2⟩
  have hB2 := bnext hB1 hb2
  replace hF := hF.on hb2
  clear hb2 hB1 hN hfe f0 f1 f2 f3 hfl
  obtain ⟨hfe, f0, f1, f2, f3⟩ := id hF
  have hfl := hfe.1
  by_cases hb1 : 1 < b
  · have nb0 := noB (n := 1 + db.size) (by omega)
    have nb1 := noB (n := 1 + db.size + 1) (by omega)
    have nb2 := noB (n := nm.size + (1 + db.size + 1)) (by omega)
    go_wp2_with fail
    refine (hD _ hB2).mono ?_
    rintro e w3 ⟨rfl, hb3⟩
    have hB3 := bnext hB2 hb3
    replace hF := hF.on hb3
    clear hb3 hB2 hD hfe f0 f1 f2 f3 hfl
    obtain ⟨hfe, f0, f1, f2, f3⟩ := id hF
    have hfl := hfe.1
    go_upto_region 6 with fail
    have hTT : Hid (fogT k b p q = nm ++ (⟨#[40]⟩ ++ db ++ ⟨#[41]⟩) ++ ⟨#[32]⟩ ++ sp ++ ⟨#[115, 32]⟩ ++ dq) := Lib.hid (by rw [hT.out, hH.out, if_pos hb1])
    have hsz : (nm ++ (⟨#[40]⟩ ++ db ++ ⟨#[41]⟩)).size ≤ 100 := by
      rw [ByteArray.size_append, ByteArray.size_append, ByteArray.size_append]
      have e : (⟨#[40]⟩ : ByteArray).size = 1 := rfl
      have e2 : (⟨#[41]⟩ : ByteArray).size = 1 := rfl
      omega
    generalize nm ++ (⟨#[40]⟩ ++ db ++ ⟨#[41]⟩) = H at hTT hsz ⊢
    clear nb0 nb1 nb2
    have nb3 := noB (n := H.size + 1) (by omega)
    have nb4 := noB (n := H.size + 1 + sp.size) (by omega)
    have nb5 := noB (n := H.size + 1 + sp.size + 2) (by omega)
    have nb6 := noB (n := H.size + 1 + sp.size + 2 + dq.size) (by omega)
    have hSw := fun (g : Grew _) => hS g.world (bnext hB3 g.below)
    have hQw := fun (g : Grew _) => hQ g.world (bnext hB3 g.below)
    clear hS hQ hT hH
    refine wp_region_grew (by kernel_rfl) (by kernel_rfl) ?_
    repeat (first | (go_big_quiet_step ((first | (go_at_call 84; exact grew_of (hSw _)) | (go_at_call 74; exact grew_of (hQw _))))) | (quiet_step ((first | (go_at_call 84; exact grew_of (hSw _)) | (go_at_call 74; exact grew_of (hQw _))))))
    refine wpQuiet_nil ?_
    rintro _ ⟨⟨w9, hb9⟩, rfl⟩
    try dsimp only
    obtain ⟨hc9, hf9⟩ := bcell hb9
    go_wp2
    go_ret
    exact ⟨ret_str (by rw [hTT.out]), bnext hB3 hb9⟩
  · have hTT : Hid (fogT k b p q = nm ++ ⟨#[32]⟩ ++ sp ++ ⟨#[115, 32]⟩ ++ dq) := Lib.hid (by rw [hT.out, hH.out, if_neg hb1])
    have hsz : nm.size ≤ 100 := by omega
    go_upto_region 6 with fail
    generalize nm = H at hTT hsz ⊢
    have nb3 := noB (n := H.size + 1) (by omega)
    have nb4 := noB (n := H.size + 1 + sp.size) (by omega)
    have nb5 := noB (n := H.size + 1 + sp.size + 2) (by omega)
    have nb6 := noB (n := H.size + 1 + sp.size + 2 + dq.size) (by omega)
    have hSw := fun (g : Grew _) => hS g.world (bnext hB2 g.below)
    have hQw := fun (g : Grew _) => hQ g.world (bnext hB2 g.below)
    clear hS hQ hT hH
    refine wp_region_grew (by kernel_rfl) (by kernel_rfl) ?_
    repeat (first | (go_big_quiet_step ((first | (go_at_call 84; exact grew_of (hSw _)) | (go_at_call 74; exact grew_of (hQw _))))) | (quiet_step ((first | (go_at_call 84; exact grew_of (hSw _)) | (go_at_call 74; exact grew_of (hQw _))))))
    refine wpQuiet_nil ?_
    rintro _ ⟨⟨w9, hb9⟩, rfl⟩
    try dsimp only
    obtain ⟨hc9, hf9⟩ := bcell hb9
    go_wp2
    go_ret
    exact ⟨ret_str (by rw [hTT.out]), bnext hB2 hb9⟩
theorem st_trim (s : ByteArray) (l : List UInt8) (x : UInt8) (w : World) (hs : s.data.toList = l ++ [x]) (hz : s.size ≤ 1000) : Calls Tryd.prog 81 #[.string s, .string ⟨#[x]⟩] w fun e w' => e = .returned (.string (ba l)) ∧ Below w.heap.size w w' := by
  refine (st_strings_TrimSuffix s ⟨#[x]⟩ w (by omega)).mono ?_
  rintro e w' ⟨rfl, rfl⟩
  have e : (⟨#[x]⟩ : ByteArray).data.toList = [x] := rfl
  rw [hs, e, trim_app]
  exact ⟨rfl, Below.refl _ _⟩
set_option maxHeartbeats 3200000 in
theorem impl_ReadFog (k b p q : Int) (w : World) (h : fogOk k b p q = true) (hE : Env w) : Calls Tryd.prog 33 #[.string (fogT k b p q)] w fun e w' => e = .returned (.tuple #[.agg #[.int .i64 k, .int .i64 b, .int .i64 p, .int .i64 q], .bool true]) ∧ Below w.heap.size w w' := by
  obtain ⟨h1, h2, h3, h4⟩ := fog_yes h
  have hl := least_bd h1 h2
  have hsz := fogT_size h
  have hFT := Lib.hid (fun w2 (hb : Below w.heap.size w w2) => impl_FogText k b p q w2 h (hE.on hb).tab)
  have hW := impl_Words (fogT k b p q) (by omega) _ (hE.on (show Below w.heap.size w (w.alloc (.cells #[.int .i64 0, .int .i64 0, .int .i64 0, .int .i64 0] 56)) by go_grown))
  unfold Gives at hW
  rw [fog_words h] at hW
  obtain ⟨n1, n2, n3, n4⟩ := fogN_facts h1
  have hfe := fun i (hi : 1 ≤ i ∧ i ≤ 4) => fogN_eq (i := i) h1 hi
  obtain ⟨q1, q2, q3⟩ := dec_bk (v := q) (by omega) (by omega)
  obtain ⟨b1, b2, b3⟩ := dec_bk (v := b) (by omega) (by omega)
  have zq := decT_size (n := q) (by omega) (by omega)
  have zb := decT_size (n := b) (by omega) (by omega)
  have zp := secT_size (n := p) (by omega)
  have zh := fogH_size h1 h2
  have hQ := fun w2 (hb : Below w.heap.size w w2) => impl_RDec (decT q) (by omega) w2 (hE.on hb)
  have hB := fun w2 (hb : Below w.heap.size w w2) => impl_RDec (decT b) (by omega) w2 (hE.on hb)
  have rdk : ∀ v : Int, rdOk (decT v) = numOk (decT v).data.toList := fun v => rfl
  have rdv : ∀ v : Int, rdV (decT v) = rdV (ba (decT v).data.toList) := fun v => by rw [← ba_data]
  simp only [rdk, rdv, q1, q3] at hQ
  simp only [rdk, rdv, b1, b3] at hB
  have hS := Lib.hid (fun w2 (hb : Below w.heap.size w w2) => impl_rdSec p w2 (by omega) (hE.on hb))
  have hEn : En (w.alloc (.cells #[.int .i64 0, .int .i64 0, .int .i64 0, .int .i64 0] 56)) w.heap.size 4 := En.new w #[.int .i64 0, .int .i64 0, .int .i64 0, .int .i64 0] 56
  have hba : Below w.heap.size w (w.alloc (.cells #[.int .i64 0, .int .i64 0, .int .i64 0, .int .i64 0] 56)) := by go_grown
  have hE' := Lib.hid hE
  have hQ' := Lib.hid hQ
  have hB' := Lib.hid hB
  have hfe' := Lib.hid hfe
  have hne : ((fogT k b p q).toList != (fogT k b p q).toList) = false := by simp
  have hHd : Hid ((1 < b → (fogH k b).data.toList = (fogN k).data.toList ++ 40 :: ((decT b).data.toList ++ [41])) ∧ (¬ 1 < b → fogH k b = fogN k)) := Lib.hid ⟨fun hb => by unfold fogH; rw [if_pos hb]; simp [ByteArray.data_append], fun hb => by unfold fogH; rw [if_neg hb]⟩
  have z5 : (secT p).data.toList.length = (secT p).size := Array.length_toList
  have z6 : (decT b).data.toList.length = (decT b).size := Array.length_toList
  generalize fogT k b p q = T at hFT hW hne hsz ⊢
  clear hE hQ hB hfe h q1 q2 q3 b1 b2 b3 rdk rdv
  have hlen : ([(fogH k b).data.toList, (secT p).data.toList ++ [115], (decT q).data.toList] : List (List UInt8)).length = 3 := rfl
  rw [hlen] at hW
  go_enter Tryd.func33, Tryd.ntmps33
  go_wp2_with fail
  refine hW.mono ?_
  rintro e w1 ⟨A, c, rfl, hsl, hb1⟩
  have hB1 := bnext hba hb1
  replace hEn := hEn.on hb1
  obtain ⟨g, o, rfl, hg, hcc⟩ := hsl (by simp [partsV])
  have c0 : w1.cell? ⟨g, o, none⟩ = some (.string (fogH k b)) := by have := hcc 0 (.string (fogH k b)) rfl; simpa using this
  have c1 : w1.cell? ⟨g, o + 1, none⟩ = some (.string (ba ((secT p).data.toList ++ [115]))) := hcc 1 _ rfl
  have c2 : w1.cell? ⟨g, o + 2, none⟩ = some (.string (decT q)) := hcc 2 (.string (decT q)) rfl
  clear hsl hcc hb1 hW hba hlen
  obtain ⟨m, hm⟩ := (hE'.out.on hB1).big
  have hcut := sr_strings_Cut (fogH k b) ⟨#[40]⟩ m w1 (by omega) hm
  have hl40 : (⟨#[40]⟩ : ByteArray).data.toList = [40] := rfl
  rw [hl40] at hcut
  obtain ⟨R, fnd, hcut', hRf⟩ : ∃ (R : ByteArray) (fnd : Bool), (∀ m : Unit, Calls Tryd.prog 72 #[.string (fogH k b), .string ⟨#[40]⟩] w1 (fun e w' => e = .returned (.tuple #[.string (fogN k), .string R, .bool fnd]) ∧ Below w1.heap.size w1 w')) ∧ Hid ((fnd = true ∧ 1 < b ∧ R.data.toList = (decT b).data.toList ++ [41]) ∨ (fnd = false ∧ b = 1)) := by
    by_cases hb : 1 < b
    · refine ⟨ba ((decT b).data.toList ++ [41]), true, fun _ => ?_, Lib.hid (.inl ⟨rfl, hb, rfl⟩)⟩
      rw [hHd.out.1 hb, cut_app _ n3] at hcut
      exact hcut.mono (fun e w' ⟨he, r, hw⟩ => ⟨he, by rw [hw]; exact below_drewN (Below.refl _ _) r⟩)
    · refine ⟨⟨#[]⟩, false, fun _ => ?_, Lib.hid (.inr ⟨rfl, by omega⟩)⟩
      rw [hHd.out.2 (by omega), cut_free n3] at hcut
      rw [hHd.out.2 (by omega)]
      exact hcut.mono (fun e w' ⟨he, r, hw⟩ => ⟨he, by rw [hw]; exact below_drewN (Below.refl _ _) r⟩)
  clear hcut hm hl40 hHd n3 n4 n2
  go_wp2_with fail
  refine (hcut' ()).mono ?_
  rintro e w2 ⟨rfl, hb2⟩
  have hz2 := hb2.size
  have hF := F4.new w2 0 1 0 0 56
  have hal : Below w2.heap.size w2 (w2.alloc (.cells #[.int .i64 0, .int .i64 1, .int .i64 0, .int .i64 0] 56)) := by go_grown
  have hb2a := bnext hb2 hal
  have hg1 := hEn.1
  clear hcut'
  go_upto_if 30 with fail
  refine wp_atB ?_
  intro w3 hw3
  rw [← hw3] at hF hb2a
  obtain ⟨h, hh⟩ : ∃ h, w2.heap.size = h := ⟨_, rfl⟩
  rw [hh] at hF ⊢
  have hhl : w1.heap.size ≤ h := by omega
  clear hw3 hal hb2
  go_cut [9] (fun u wx => u = .bool true ∧ ∃ wz, wz = wx ∧ Below w1.heap.size w1 wz ∧ F4 wz h 0 b 0 0)
  case first =>
    rcases hRf.out with ⟨rfl, hb, hR⟩ | ⟨rfl, hb⟩
    · have hTr := st_trim R (decT b).data.toList 41 w3 hR (by have : R.size = R.data.toList.length := Array.length_toList.symm; rw [this, hR, List.length_append, z6]; simp; omega)
      rw [← ba_data] at hTr
      clear hS hFT
      go_wp2_with fail
      refine hTr.mono ?_
      rintro e w4 ⟨rfl, hb4⟩
      have hb4a := bnext hb2a hb4
      replace hF := hF.on hb4
      go_wp2_with fail
      refine (hB'.out _ (bnext hB1 hb4a)).mono ?_
      rintro e w5 ⟨rfl, hb5⟩
      have hb5a := bnext hb4a hb5
      replace hF := hF.on hb5
      clear hb4 hb4a hb5 hTr
      obtain ⟨hfe2, f0, f1, f2, f3⟩ := id hF
      obtain ⟨_, y1⟩ := hfe2.at (k := 1) (by omega)
      have hfl := hfe2.1
      go_wp2_with fail
      go_meet
      exact ⟨rfl, _, rfl, hb5a.setCell (by omega) _, hF.s1 b⟩
    · subst hb
      go_wp2_with fail
      go_meet
      exact ⟨rfl, _, rfl, hb2a, hF⟩
  case rest =>
    clear hRf hb2a hF hB'
    obtain ⟨rfl, w4, rfl, hb4, hF⟩ := hcut
    have d1 := (bcell hb4).1 _ (o + 1) hg
    have d2 := (bcell hb4).1 _ (o + 2) hg
    have d1 := d1.trans c1
    have d2 := d2.trans c2
    have hz4 := hb4.size
    have hTr := st_trim (ba ((secT p).data.toList ++ [115])) (secT p).data.toList 115 w4 rfl (by rw [ba_size, List.length_append, z5]; simp; omega)
    rw [← ba_data] at hTr
    go_wp2_with fail
    refine hTr.mono ?_
    rintro e w5 ⟨rfl, hb5⟩
    have hb5a := bnext hb4 hb5
    replace hF := hF.on hb5
    go_wp2_with fail
    refine (hS.out _ (bnext hB1 hb5a)).mono ?_
    rintro e w6 ⟨rfl, hb6⟩
    have hb6a := bnext hb5a hb6
    replace hF := hF.on hb6
    clear hb4 hb5 hb5a hb6 d1 d2 hTr hS
    have d2 := (bcell hb6a).1 _ (o + 2) hg
    have d2 := d2.trans c2
    have hz6 := hb6a.size
    go_wp2_with fail
    refine (hQ'.out _ (bnext hB1 hb6a)).mono ?_
    rintro e w7 ⟨rfl, hb7⟩
    have hb7a := bnext hb6a hb7
    replace hF := hF.on hb7
    clear hb6a hb7 d2 c0 c1 c2
    obtain ⟨hfe2, f0, f1, f2, f3⟩ := id hF
    obtain ⟨_, y2⟩ := hfe2.at (k := 2) (by omega)
    obtain ⟨_, y3⟩ := hfe2.at (k := 3) (by omega)
    have hfl := hfe2.1
    go_upto_region 12 with fail
    refine wp_atB ?_
    intro w8 hw8
    have hb8 : Below w1.heap.size w1 w8 := by rw [hw8]; exact (hb7a.setCell (by omega) _).setCell (by omega) _
    have hF8 : F4 w8 h 0 b p q := by rw [hw8]; exact (hF.s2 p).s3 q
    clear hw8 hb7a hF hfe2 f0 f1 f2 f3 y2 y3 hfl
    go_wp2_with fail
    go_loopw [14] (fun iv wr => ∃ i : Int, iv = .int .i64 i ∧ 1 ≤ i ∧ i ≤ 5 ∧ Below w1.heap.size w1 wr ∧ F4 wr h (if k < i then k else 0) b p q) (fun iv _ => (5 - intOf iv).toNat)
    case atStart => exact ⟨1, rfl, by omega, by omega, hb8, by rw [if_neg (by omega)]; exact hF8⟩
    case round =>
      clear hb8 hF8
      obtain ⟨i, rfl, hi1, hi5, hbr, hF⟩ := hrel
      have hzr := hbr.size
      by_cases hlt : i ≤ 4
      · have hN := fun w => impl_FogName i w
        have heq := hfe'.out i ⟨hi1, hlt⟩
        generalize fogN i = a at hN heq
        generalize fogN k = nm at heq ⊢
        by_cases hik : i = k
        · rw [decide_eq_true hik] at heq
          have hik' := Lib.hid hik
          clear hik
          go_wp2_with fail
          refine (hN _).mono ?_
          rintro e w9 ⟨rfl, hb9⟩
          have hb9a := bnext hbr hb9
          replace hF := hF.on hb9
          obtain ⟨hfe2, f0, f1, f2, f3⟩ := id hF
          obtain ⟨_, y0⟩ := hfe2.at (k := 0) (by omega)
          have hfl := hfe2.1
          go_wp2_with fail
          go_roundw
          case rel => exact ⟨i + 1, by go_num, by omega, by omega, hb9a.setCell (by omega) _, by rw [if_pos (by have := hik'.out; omega), ← hik'.out]; exact hF.s0 i⟩
          case measure => simp [intOf]; omega
        · rw [decide_eq_false hik] at heq
          go_wp2_with fail
          refine (hN _).mono ?_
          rintro e w9 ⟨rfl, hb9⟩
          go_wp2_with fail
          go_roundw
          case rel => exact ⟨i + 1, by go_num, by omega, by omega, bnext hbr hb9, by have := hF.on hb9; rw [show (if k < i + 1 then k else 0) = (if k < i then k else 0) by split <;> split <;> omega]; exact this⟩
          case measure => simp [intOf]; omega
      · obtain rfl : i = 5 := by omega
        rw [if_pos (by omega)] at hF
        obtain ⟨hfe2, f0, f1, f2, f3⟩ := id hF
        have hfl := hfe2.1
        go_wp2_with fail
        refine (hFT.out _ (bnext hB1 hbr)).mono ?_
        rintro e w9 ⟨rfl, hb9⟩
        have hb9a := bnext hbr hb9
        replace hF := hF.on hb9
        have hE9 := hEn.on hb9a
        clear hfe2 f0 f1 f2 f3 hfl
        obtain ⟨hfe2, f0, f1, f2, f3⟩ := id hF
        obtain ⟨⟨r0, y0⟩, y1⟩ := hE9.at (k := 0) (by omega)
        obtain ⟨⟨r1, y2⟩, y3⟩ := hE9.at (k := 1) (by omega)
        obtain ⟨⟨r2, y4⟩, y5⟩ := hE9.at (k := 2) (by omega)
        obtain ⟨⟨r3, y6⟩, y7⟩ := hE9.at (k := 3) (by omega)
        have hB9 := bnext hB1 hb9a
        go_wp2_with fail
        refine end_atA ?_
        intro wf hwf
        obtain ⟨⟨_, t0, t1, t2, t3⟩, hgw⟩ := four_F hE9 hwf
        have hBf := hB9.grown hgw hB9.size (fun k e => by have := Option.some.inj e; omega)
        clear hwf hgw y0 y1 y2 y3 y4 y5 y6 y7
        refine bodyPost_ret (by simp [results, Tryd.results33, go_sem, t0, t1, t2, t3]; try rfl) rfl ?_
        exact ⟨rfl, hBf⟩
end Go.Proofs.YtbikppndhidbpaaDoor

set_option linter.unusedVariables false
set_option linter.unnecessarySimpa false
set_option maxRecDepth 100000
set_option linter.unusedSimpArgs false
namespace Go.Proofs.YtbikppndhidbpaaDoor
open Go.RowKit BigFrame Go.Deep
theorem snd_up' {p w : Int} (hp : 60 ≤ p ∧ p < 140) (hw : -3 ≤ w ∧ w ≤ 3) : sndM p w ≤ sndM (p + 1) w := by
  have := snd_up (p - 60).toNat (by omega) (w + 3).toNat (by omega)
  rwa [show (((p - 60).toNat : Nat) : Int) + 60 = p by omega, show (((p - 60).toNat : Nat) : Int) + 61 = p + 1 by omega, show (((w + 3).toNat : Nat) : Int) - 3 = w by omega] at this
theorem snd_wind' {p w : Int} (hp : 60 ≤ p ∧ p ≤ 140) (hw : -3 ≤ w ∧ w < 3) : sndM p w ≤ sndM p (w + 1) := by
  have := snd_wind (p - 60).toNat (by omega) (w + 3).toNat (by omega)
  rwa [show (((p - 60).toNat : Nat) : Int) + 60 = p by omega, show (((w + 3).toNat : Nat) : Int) - 3 = w by omega, show (((w + 3).toNat : Nat) : Int) - 2 = w + 1 by omega] at this
set_option maxHeartbeats 400000 in
theorem fnFog.env_of {W : World} (hsh : W.ShapedOpen Tryd.prog) (h : laidMetH Tryd.prog Rows.fnFogRow.laid W) : Env W := by
  rw [MakeChecks.laidMetH_plain _ _ _ (by kernel_rfl)] at h
  have hT : Tab W := Lib.tabIs_of_head tabVar (by kernel_rfl) Tryd.underlying190 Tryd.underlying134 (by kernel_rfl) (by kernel_rfl) h.tail.tail
  obtain ⟨a0, s0, hv0, -, -, -⟩ := laid_sentinel h.tail.tail.tail.tail ranVar (by kernel_rfl) Tryd.underlying138 rowErr Tryd.underlying195 Tryd.underlying197 rfl rfl Tryd.underlying9 (by kernel_rfl) (by kernel_rfl)
  obtain ⟨a1, s1, hv1, -, -, -⟩ := laid_sentinel h.tail.tail.tail.tail.tail synVar (by kernel_rfl) Tryd.underlying138 rowErr Tryd.underlying195 Tryd.underlying197 rfl rfl Tryd.underlying9 (by kernel_rfl) (by kernel_rfl)
  exact ⟨hT, ⟨_, _, hv1⟩, ⟨_, _, hv0⟩, cell_of_shapedOpen_int (zero := #[.int .i64 0]) (t := 3) hsh (of_decide_eq_true (by kernel_rfl)) (by kernel_rfl) rfl (by kernel_rfl) (by kernel_rfl) Tryd.underlying3⟩
namespace fnFog
open Go.ChangeShapes Go.WideShapes Go.ChangeAt Go.RowKit
set_option linter.unusedVariables false
set_option maxHeartbeats 3200000 in
theorem walk (W : World) (A0 : Option Addr) (c0 : Nat) (L0 : List Int) (s0 : Sl W W.heap.size A0 (bytesL L0)) (b0 : ∀ z ∈ L0, IntKind.u8.has z) (m0 : L0.length ≤ maxLen) (A1 : Option Addr) (c1 : Nat) (L1 : List Int) (s1 : Sl W W.heap.size A1 (bytesL L1)) (b1 : ∀ z ∈ L1, IntKind.u8.has z) (m1 : L1.length ≤ maxLen) (hE : Env W) :
    Calls Tryd.prog 5 #[.slice A0 L0.length c0, .slice A1 L1.length c1] W fun e w' => e = .returned (.bool true) ∧ Below W.heap.size W w' := by
  by_cases hl0 : 1048576 < L0.length
  · go_enter Tryd.func5, Tryd.ntmps5
    go_wp2_with (first | (go_at_call 16; refine (b10Long_any _ _ _ _ (by assumption)).mono ?_; rintro e w' ⟨rfl, rfl⟩))
    go_ret
    exact ⟨rfl, Below.refl _ _⟩
  by_cases hl1 : 1048576 < L1.length
  · go_enter Tryd.func5, Tryd.ntmps5
    go_wp2_with (first | (go_at_call 16; refine (b10Long_any _ _ _ _ (by assumption)).mono ?_; rintro e w' ⟨rfl, rfl⟩))
    go_ret
    exact ⟨rfl, Below.refl _ _⟩
  have S0 := Lib.hid s0
  have S1 := Lib.hid s1
  have U0 := Lib.hid b0
  have U1 := Lib.hid b1
  have hE' := Lib.hid hE
  clear s0 s1 b0 b1 hE
  go_enter Tryd.func5, Tryd.ntmps5
  go_wp2_with (go_at_call 16; refine (b10Long_any _ _ _ _ (by assumption)).mono ?_; rintro e w' ⟨rfl, rfl⟩)
  refine (draw_nb L0 _ _ W.heap.size _ S0.out (Nat.le_refl _) U0.out (by omega)).mono ?_
  rintro e w1 ⟨k, b, p, q, t, hk, hb, hp, hq, ht, rfl, hb1⟩
  have hF := F4.new w1 k b p q 56
  have hal : Below w1.heap.size w1 (w1.alloc (.cells #[.int .i64 k, .int .i64 b, .int .i64 p, .int .i64 q] 56)) := by go_grown
  go_upto_region 4 with fail
  refine wp_atB ?_
  intro w2 hw2
  rw [← hw2] at hF hal
  have hB2 := bnext hb1 hal
  obtain ⟨g, hg⟩ : ∃ g, w1.heap.size = g := ⟨_, rfl⟩
  rw [hg] at hF ⊢
  clear hw2 hal hb1 hg
  obtain ⟨_, f0, f1, f2, f3⟩ := id hF
  go_wp2_with fail
  refine (impl_NextBlast k b p q t _).mono ?_
  rintro e w3 ⟨x, cd, rfl, hb3, hcase⟩
  have hB3 := bnext hB2 hb3
  replace hF := hF.on hb3
  clear hb3 hB2 f0 f1 f2 f3
  obtain ⟨_, f0, f1, f2, f3⟩ := id hF
  have hcase' := Lib.hid hcase
  clear hcase
  go_upto_if 43 with fail
  go_cut [7] (fun u wx => (∃ y, u = y) ∧ ∃ wz, wz = wx ∧ Below W.heap.size W wz)
  case first =>
    rcases hcase'.out with hcd | ⟨rfl, hok, htb, n, rfl, hlo, hhi, m, hm, hxm⟩
    · have hcd2 : (cd == 0) = false := beq_eq_false_iff_ne.2 hcd
      go_wp2_with fail
      go_meet
      exact ⟨⟨_, rfl⟩, _, rfl, hB3⟩
    · have hbl := fun w => impl_BlastsOf k p q n w hok
      have hft := fun w2 (hb : Below W.heap.size W w2) => impl_FogText k n p q w2 hok (hE'.out.on hb).tab
      have hrf := fun w2 (hb : Below W.heap.size W w2) => impl_ReadFog k n p q w2 hok (hE'.out.on hb)
      have hpb := (fog_yes hok).2.2.1
      have hlb := least_bd (fog_yes hok).1 (fog_yes hok).2.1
      have hx0 : ¬ x < t := by omega
      have hx1 : ¬ t + p ≤ x := by omega
      generalize fogT k (n : Int) p q = T at hft hrf
      by_cases hxb : x ≤ 1000000000000
      · have hsa := fun w => impl_SoundAt k p q x n m w hok (by omega) hm hxm
        go_wp2_with fail
        refine (hsa _).mono ?_
        rintro e w4 ⟨rfl, hb4⟩
        have hB4 := bnext hB3 hb4
        replace hF := hF.on hb4
        clear hb4 hB3 f0 f1 f2 f3 hsa
        obtain ⟨_, f0, f1, f2, f3⟩ := id hF
        go_wp2_with fail
        refine (hbl _).mono ?_
        rintro e w5 ⟨A, c, rfl, hb5⟩
        have hB5 := bnext hB4 hb5
        replace hF := hF.on hb5
        clear hb5 hB4 f0 f1 f2 f3 hbl
        obtain ⟨_, f0, f1, f2, f3⟩ := id hF
        go_wp2_with fail
        refine (hft _ hB5).mono ?_
        rintro e w6 ⟨rfl, hb6⟩
        have hB6 := bnext hB5 hb6
        replace hF := hF.on hb6
        clear hb6 hB5 f0 f1 f2 f3 hft
        obtain ⟨_, f0, f1, f2, f3⟩ := id hF
        go_wp2_with fail
        refine (hrf _ hB6).mono ?_
        rintro e w7 ⟨rfl, hb7⟩
        have hB7 := bnext hB6 hb7
        replace hF := hF.on hb7
        clear hb7 hB6 f0 f1 f2 f3 hrf
        obtain ⟨hen, f0, f1, f2, f3⟩ := id hF
        have hgl := hen.1
        go_wp2_with fail
        all_goals try (exfalso; omega)
        go_meet
        exact ⟨⟨_, rfl⟩, _, rfl, bnext hB7 (by go_grown)⟩
      · have hsa := fun w => impl_SoundAt_no k n p q x w (by unfold scC; rw [hok, inB_un (by omega)]; decide)
        generalize scC k n p q x = C at hsa
        have hxd : decide (x ≤ 1000000000000) = false := decide_eq_false hxb
        go_wp2_with fail
        refine (hsa _).mono ?_
        rintro e w4 ⟨rfl, hb4⟩
        have hB4 := bnext hB3 hb4
        replace hF := hF.on hb4
        clear hb4 hB3 f0 f1 f2 f3 hsa
        obtain ⟨_, f0, f1, f2, f3⟩ := id hF
        go_wp2_with fail
        refine (hbl _).mono ?_
        rintro e w5 ⟨A, c, rfl, hb5⟩
        have hB5 := bnext hB4 hb5
        replace hF := hF.on hb5
        clear hb5 hB4 f0 f1 f2 f3 hbl
        obtain ⟨_, f0, f1, f2, f3⟩ := id hF
        go_wp2_with fail
        refine (hft _ hB5).mono ?_
        rintro e w6 ⟨rfl, hb6⟩
        have hB6 := bnext hB5 hb6
        replace hF := hF.on hb6
        clear hb6 hB5 f0 f1 f2 f3 hft
        obtain ⟨_, f0, f1, f2, f3⟩ := id hF
        go_wp2_with fail
        refine (hrf _ hB6).mono ?_
        rintro e w7 ⟨rfl, hb7⟩
        have hB7 := bnext hB6 hb7
        replace hF := hF.on hb7
        clear hb7 hB6 f0 f1 f2 f3 hrf
        obtain ⟨hen, f0, f1, f2, f3⟩ := id hF
        have hgl := hen.1
        go_wp2_with fail
        all_goals try (exfalso; omega)
        go_meet
        exact ⟨⟨_, rfl⟩, _, rfl, bnext hB7 (by go_grown)⟩
  case rest =>
    obtain ⟨_, w4, rfl, hB4⟩ := hcut
    clear hcase' hB3 hF f0 f1 f2 f3
    go_wp2_with fail
    refine (draw_pow L1 _ _ W.heap.size _ (S1.out.below hB4) hB4.size U1.out (by omega)).mono ?_
    rintro e w5 ⟨d, wd, hd, hwd, rfl, hb5⟩
    have hB5 := bnext hB4 hb5
    clear hb5 hB4
    go_wp2_with fail
    refine (impl_PowFor d wd _).mono ?_
    rintro e w6 ⟨z, cd2, rfl, hb6, hcase⟩
    have hB6 := bnext hB5 hb6
    clear hb6 hB5
    rcases hcase with ⟨hcd, rfl⟩ | ⟨rfl, hw3, hz, hge, hlt⟩
    · have hc2 : (cd2 != 0) = true := by simpa using hcd
      go_wp2_with fail
      go_ret
      exact ⟨rfl, hB6⟩
    · have hR := fun w => impl_SndRange z wd w hz hw3
      have hL : 60 < z → ∀ w, Calls Tryd.prog 37 #[.int .i64 (z - 1), .int .i64 wd] w fun e w' => e = .returned (.tuple #[.int .i64 (sndM (z - 1) wd), .int .i64 0]) ∧ Below w.heap.size w w' := fun h w => impl_SndRange (z - 1) wd w (by omega) hw3
      have hU : wd < 3 → ∀ w, Calls Tryd.prog 37 #[.int .i64 z, .int .i64 (wd + 1)] w fun e w' => e = .returned (.tuple #[.int .i64 (sndM z (wd + 1)), .int .i64 0]) ∧ Below w.heap.size w w' := fun h w => impl_SndRange z (wd + 1) w hz (by omega)
      have hup : wd < 3 → sndM z wd ≤ sndM z (wd + 1) := fun h => snd_wind' hz (by omega)
      generalize sndM z wd = s at hR hge hup
      generalize sndM (z - 1) wd = s1 at hL hlt
      generalize sndM z (wd + 1) = s2 at hU hup
      have hn1 : ¬ s < d := by omega
      go_wp2_with fail
      refine (hR _).mono ?_
      rintro e w7 ⟨rfl, hb7⟩
      have hB7 := bnext hB6 hb7
      clear hb7 hB6 hR
      by_cases hz6 : 60 < z
      · have hL' := hL hz6
        have hlt' := hlt hz6
        have hn2 : ¬ d ≤ s1 := by omega
        clear hL hlt
        go_wp2_with fail
        refine (hL' _).mono ?_
        rintro e w8 ⟨rfl, hb8⟩
        have hB8 := bnext hB7 hb8
        clear hb8 hB7 hL'
        by_cases hw : wd < 3
        · have hU' := hU hw
          have hup' := hup hw
          have hn3 : ¬ s2 < s := by omega
          clear hU hup
          go_wp2_with fail
          refine (hU' _).mono ?_
          rintro e w9 ⟨rfl, hb9⟩
          go_wp2_with fail
          go_ret
          exact ⟨rfl, bnext hB8 hb9⟩
        · go_wp2_with fail
          go_ret
          exact ⟨rfl, hB8⟩
      · clear hL hlt
        by_cases hw : wd < 3
        · have hU' := hU hw
          have hup' := hup hw
          have hn3 : ¬ s2 < s := by omega
          clear hU hup
          go_wp2_with fail
          refine (hU' _).mono ?_
          rintro e w9 ⟨rfl, hb9⟩
          go_wp2_with fail
          go_ret
          exact ⟨rfl, bnext hB7 hb9⟩
        · go_wp2_with fail
          go_ret
          exact ⟨rfl, hB7⟩

theorem lifted (os : Os) (started : os.Started) (H : Type) (enc : TypeId × Value → H) :
    ReturnsInHanded {} Tryd.checked os 5 .any (fun w args => (Rows.fnFogSpec.pre enc Tryd.prog Tryd.f5 Rows.fnFogRow.domain false w args ∧ laidMetH Tryd.prog Rows.fnFogRow.laid w) ∧ sizedMet enc Tryd.prog Tryd.f5 (OpenSpec.ofChange Rows.fnFogSpec) false w args) (Rows.fnFogSpec.post enc Tryd.prog Tryd.f5 false true false false) := by
  refine change_sh (C := Tryd.checked) (X := fun w _ => laidMetH Tryd.prog Rows.fnFogRow.laid w) (fun _ _ _ hh h => h.of_heap hh) own started (by kernel_rfl) Tryd.func5
    (ChangeSpec.witness_shaped (enc := enc) (C := Tryd.checked) (os := os) (X := fun w _ => laidMetH Tryd.prog Rows.fnFogRow.laid w) false (World.laidAll Tryd.prog os Rows.fnFogRow.laid) #[.slice none 0 0, .slice none 0 0] 8 (World.laidAll_os _ _ _)
      (World.shaped_of_ZipB (by kernel_rfl) (by kernel_rfl)) (by kernel_rfl) (by kernel_rfl) (by kernel_rfl)
      (by rw [MakeChecks.laidMetH_plain _ _ _ (by kernel_rfl)]; exact laidMet_laidAll _ (by kernel_rfl) (by kernel_rfl))) ?_
  intro W base args ds gs before hval0 hW hcnd _ hsh hL _
  have hval : ∀ (j : Nat) t v, Tryd.f5.params[j]? = some t → args[j]? = some v → Value.okWide Tryd.prog W .any base t v := hval0
  have hW' := hW
  obtain ⟨p, q, hA0, hV, rfl, hfz, hnd⟩ := hW
  have hA : DataW.TrodAll enc Tryd.prog W 0 (fun _ => true) true Tryd.f5.params.toList args.toList ds p := hA0
  rw [Tryd.params5] at hA hval
  obtain ⟨v0, vs0, d0, ds0, p0, q0, hargs, rfl, rfl, h0, r0⟩ := trodAll_cons hA
  obtain ⟨v1, vs1, d1, ds1, p1, q1, rfl, rfl, rfl, h1, r1⟩ := trodAll_cons r0
  obtain ⟨rfl, rfl, rfl⟩ := trodAll_nil r1
  obtain rfl : args = #[v0, v1] := by cases args; simp_all
  have g0 := h0
  have g1 := h1
  obtain ⟨rfl, rfl⟩ := trodVars_none hV
  clear hA0 hval0
  simp only [List.append_nil] at hW'
  have hlt : ∀ x ∈ p0 ++ (p1), x.block < W.heap.size := fun x hx => by simpa using hW'.lt x (by simpa using hx)
  obtain ⟨fu0, hf0⟩ := h0
  obtain ⟨A0, c0, L0, hv0, s0, b0, m0⟩ := open_row8 Tryd.underlying22 Tryd.underlying5 (by kernel_rfl) hf0
  obtain ⟨va0, vl0, vc0, rfl⟩ := Go.WideShapes.okWide_slice Tryd.underlying22 (hval 0 22 _ rfl rfl)
  obtain ⟨rfl, rfl, rfl⟩ : A0 = va0 ∧ L0.length = vl0 ∧ c0 = vc0 := by have := hv0; simp [Value.cells] at this; exact ⟨this.1.symm, this.2.1.symm, this.2.2.symm⟩
  obtain ⟨fu1, hf1⟩ := h1
  obtain ⟨A1, c1, L1, hv1, s1, b1, m1⟩ := open_row8 Tryd.underlying22 Tryd.underlying5 (by kernel_rfl) hf1
  obtain ⟨va1, vl1, vc1, rfl⟩ := Go.WideShapes.okWide_slice Tryd.underlying22 (hval 1 22 _ rfl rfl)
  obtain ⟨rfl, rfl, rfl⟩ : A1 = va1 ∧ L1.length = vl1 ∧ c1 = vc1 := by have := hv1; simp [Value.cells] at this; exact ⟨this.1.symm, this.2.1.symm, this.2.2.symm⟩
  refine (walk W A0 c0 L0 s0 b0 m0 A1 c1 L1 s1 b1 m1 (env_of hsh hL)).mono fun e W' ⟨he, hg⟩ => ?_
  subst he
  exact ⟨_, rfl, post_below (pa := _) hW' (trodAll_cons_mk (shut_bool Tryd.underlying4 _) trodAll_mk0) (trodAll_cons_mk (Below.trod laidOut (by kernel_rfl) (of_decide_eq_true (by kernel_rfl)) g0 hg (fun x hx => hlt x (by simp [hx]))) (trodAll_cons_mk (Below.trod laidOut (by kernel_rfl) (of_decide_eq_true (by kernel_rfl)) g1 hg (fun x hx => hlt x (by simp [hx]))) trodAll_mk0)) rfl (by simp) hg⟩

theorem over : Rows.fnFogRow.holds Tryd.pinned (OpenSpec.ofChange Rows.fnFogSpec) :=
  OpenClaim.holds_of_wide 5 Tryd.f5 rfl rfl rfl rfl rfl rfl rfl ⟨rfl, rfl, rfl, rfl, rfl⟩ rfl rfl rfl rfl rfl (by kernel_rfl) Tryd.func5 (by kernel_rfl)
    (of_decide_eq_true (by kernel_rfl)) (by unfold Func.isWrapper; first | (rw [if_pos (by decide +kernel)]; kernel_rfl) | (rw [if_neg (by decide +kernel)]; exact ⟨rfl, rfl⟩))
    (fun os started H enc _ => lifted os started H enc)

theorem proved : Rows.FnFogCardSaid :=
  Claim7.holds_tied_plain_at .later [] [.data, .data, .data, .data, .sentinel, .sentinel, .pinned] true (true, "e54f5df195bea41d14e2fbc87614cac5e33ca53fba120000ed3c95be4f5f1514") true over (fun _ h => by cases h) (by kernel_rfl) (fun _ h => by cases h) fnFog_row_tie rfl ⟨rfl, rfl⟩ (by kernel_rfl) rfl
    (fun f fn hf hfn => by
      obtain rfl : f = 5 := Option.some.inj ((show Tryd.prog.funcNamed "loop.example/g00953/laws.FnFog" = some 5 by kernel_rfl).symm.trans hf) |>.symm
      obtain rfl : fn = Tryd.f5 := (Option.some.inj (Tryd.func5.symm.trans hfn)).symm
      exact ⟨by kernel_rfl, fun j t ht => by
        rw [Tryd.params5] at ht
        have hm : t ∈ [22, 22] := by simpa using Array.mem_of_getElem? ht
        have hall : ([22, 22].all fun u => !Tryd.prog.wantsStandIn u) = true := by kernel_rfl
        exact (show Tryd.prog.wantsStandIn t = false by simpa using List.all_eq_true.1 hall t hm)⟩)
    (by kernel_rfl)
#print axioms proved
end fnFog

end Go.Proofs.YtbikppndhidbpaaDoor
