/-
  Contracts of the signs of letters. Each under the conditions that it states.
-/
import Derived.Test.YtpnffdkkmibchaaDoorMoP
import Derived.Test.YtpnffdkkmibchaaDoorPhases
import Derived.Laws.Cover1
import Derived.Laws.Runes
import Derived.Lib.OthersKept
import Derived.Lib.ConvBytes
set_option linter.unusedVariables false
set_option linter.unnecessarySimpa false
set_option maxRecDepth 100000
set_option linter.unusedSimpArgs false
namespace Go.Proofs.YtpnffdkkmibchaaDoor
open Go.RowKit BigFrame Go.Deep

/-- The text of a letter; the text of its signs. -/
def lt (x : Nat) : ByteArray := ⟨#[(65 + x).toUInt8]⟩
def sgB (x : Nat) : ByteArray := ⟨(sg x).toArray⟩
theorem lt_facts {x : Nat} (h : x < 26) : Op.bytesLess [(65 + x).toUInt8] [65] = false ∧ (Op.bytesLess [(65 + x).toUInt8] [90] || ((65 + x).toUInt8 == 90)) = true ∧ ((65 + x).toUInt8).toNat = 65 + x := by
  have key : ∀ y : Fin 26, Op.bytesLess [(65 + y.1).toUInt8] [65] = false ∧ (Op.bytesLess [(65 + y.1).toUInt8] [90] || ((65 + y.1).toUInt8 == 90)) = true ∧ ((65 + y.1).toUInt8).toNat = 65 + y.1 := by decide
  exact key ⟨x, h⟩
theorem run_index_arrS {P : Program} {w : World} {t e : TypeId} {n : Nat} {cs : Array Value} {v : Value} (ht : P.underlying t = some (.array n e)) (hu : P.underlying e = some .string) (he : ((P.info? e).map fun i => i.size) = some 1) (k : Nat) (hk : k < n) (hc : cs[k]? = some v) :
    (Instr.index t (.agg cs) (.int .u8 k)).run P w = .ok v w := by
  obtain ⟨i, hi, hs⟩ := Option.map_eq_some_iff.1 he
  simp [Instr.index, run_underlying ht, asIntOf, sizeOf, typeInfo, hi, hs, hk, part, hc, isAgg, run_underlying hu]
theorem sg_at {x : Nat} (h : x < 26) : (#[Value.string ⟨#[46, 45]⟩, .string ⟨#[45, 46, 46, 46]⟩, .string ⟨#[45, 46, 45, 46]⟩, .string ⟨#[45, 46, 46]⟩, .string ⟨#[46]⟩, .string ⟨#[46, 46, 45, 46]⟩, .string ⟨#[45, 45, 46]⟩, .string ⟨#[46, 46, 46, 46]⟩, .string ⟨#[46, 46]⟩, .string ⟨#[46, 45, 45, 45]⟩, .string ⟨#[45, 46, 45]⟩, .string ⟨#[46, 45, 46, 46]⟩, .string ⟨#[45, 45]⟩, .string ⟨#[45, 46]⟩, .string ⟨#[45, 45, 45]⟩, .string ⟨#[46, 45, 45, 46]⟩, .string ⟨#[45, 45, 46, 45]⟩, .string ⟨#[46, 45, 46]⟩, .string ⟨#[46, 46, 46]⟩, .string ⟨#[45]⟩, .string ⟨#[46, 46, 45]⟩, .string ⟨#[46, 46, 46, 45]⟩, .string ⟨#[46, 45, 45]⟩, .string ⟨#[45, 46, 46, 45]⟩, .string ⟨#[45, 46, 45, 45]⟩, .string ⟨#[45, 45, 46, 46]⟩] : Array Value)[x]? = some (.string (sgB x)) := by
  have key : ∀ y : Fin 26, (#[Value.string ⟨#[46, 45]⟩, .string ⟨#[45, 46, 46, 46]⟩, .string ⟨#[45, 46, 45, 46]⟩, .string ⟨#[45, 46, 46]⟩, .string ⟨#[46]⟩, .string ⟨#[46, 46, 45, 46]⟩, .string ⟨#[45, 45, 46]⟩, .string ⟨#[46, 46, 46, 46]⟩, .string ⟨#[46, 46]⟩, .string ⟨#[46, 45, 45, 45]⟩, .string ⟨#[45, 46, 45]⟩, .string ⟨#[46, 45, 46, 46]⟩, .string ⟨#[45, 45]⟩, .string ⟨#[45, 46]⟩, .string ⟨#[45, 45, 45]⟩, .string ⟨#[46, 45, 45, 46]⟩, .string ⟨#[45, 45, 46, 45]⟩, .string ⟨#[46, 45, 46]⟩, .string ⟨#[46, 46, 46]⟩, .string ⟨#[45]⟩, .string ⟨#[46, 46, 45]⟩, .string ⟨#[46, 46, 46, 45]⟩, .string ⟨#[46, 45, 45]⟩, .string ⟨#[45, 46, 46, 45]⟩, .string ⟨#[45, 46, 45, 45]⟩, .string ⟨#[45, 45, 46, 46]⟩] : Array Value)[y.1]? = some (.string (sgB y.1)) := by
    intro ⟨y, hy⟩
    match y, hy with
    | 0, _ => rfl
    | 1, _ => rfl
    | 2, _ => rfl
    | 3, _ => rfl
    | 4, _ => rfl
    | 5, _ => rfl
    | 6, _ => rfl
    | 7, _ => rfl
    | 8, _ => rfl
    | 9, _ => rfl
    | 10, _ => rfl
    | 11, _ => rfl
    | 12, _ => rfl
    | 13, _ => rfl
    | 14, _ => rfl
    | 15, _ => rfl
    | 16, _ => rfl
    | 17, _ => rfl
    | 18, _ => rfl
    | 19, _ => rfl
    | 20, _ => rfl
    | 21, _ => rfl
    | 22, _ => rfl
    | 23, _ => rfl
    | 24, _ => rfl
    | 25, _ => rfl
    | n + 26, hy => exact absurd hy (by omega)
  exact key ⟨x, h⟩
set_option maxHeartbeats 800000 in
theorem impl_signs (x : Nat) (hx : x < 26) (w : World) : Calls Tryd.prog 13 #[.string (lt x)] w fun e w' => e = .returned (.string (sgB x)) ∧ w = w' := by
  obtain ⟨h1, h2, h3⟩ := lt_facts hx
  unfold lt
  obtain ⟨c, hc⟩ : ∃ c, (65 + x).toUInt8 = c := ⟨_, rfl⟩
  rw [hc] at h1 h2 h3 ⊢
  clear hc
  go_enter Tryd.func13, Tryd.ntmps13
  go_wp2
  show Oper.upon _ _ _ _ _ (Result.andThen (Sem.run _ (Instr.index 46 _ (Value.int .u8 ((((c.toNat : Nat) : Int) - 65) % 256))) w) _)
  rw [show (((c.toNat : Nat) : Int) - 65) % 256 = (x : Int) by omega]
  rw [run_index_arrS (n := 26) (v := .string (sgB x)) Tryd.underlying46 Tryd.underlying9 (by kernel_rfl) x hx (sg_at hx)]
  go_wp2
  go_ret
  exact ⟨rfl, rfl⟩
theorem sgB_ne {x y : Nat} (hx : x < 26) (hy : y < 26) (h : x ≠ y) : ((sgB x).toList == (sgB y).toList) = false := bytes_ne fun e => h (sg_inj hx hy (by
  have := congrArg (fun s : ByteArray => s.data.toList) e
  simpa [sgB] using this))
theorem sgB_some {x : Nat} (hx : x < 26) : (sgB x).toList.isEmpty = false := some_text (by
  have := sg_len hx
  show ¬ (sg x).toArray.size = 0
  simp
  intro e
  rw [e] at this
  simp at this)
theorem sgB_size (x : Nat) : (sgB x).size = (sg x).length := by show (sg x).toArray.size = _; simp
theorem impl_MorseOf (x : Nat) (hx : x < 26) (w : World) : Calls Tryd.prog 6 #[.string (lt x)] w fun e w' => e = .returned (.tuple #[.string (sgB x), .int .i64 0]) ∧ w = w' := by
  have h1 := sgB_some hx
  go_enter Tryd.func6, Tryd.ntmps6
  go_wp2_with (go_at_call 13; refine (impl_signs _ hx _).mono ?_; rintro e w' ⟨rfl, rfl⟩)
  go_ret2
  exact ⟨rfl, rfl⟩
theorem impl_units (s : UInt8) (w : World) : Calls Tryd.prog 16 #[.int .u8 s.toNat] w fun e w' => e = .returned (.int .i64 (un s)) ∧ w = w' := by
  by_cases h : s = 45
  · subst h
    go_enter Tryd.func16, Tryd.ntmps16
    go_wp2
    go_ret
    exact ⟨rfl, rfl⟩
  · have hm : Hid (un s = 1) := Lib.hid (by unfold un; rw [if_neg h])
    have h2 : ((s.toNat : Int) == 45) = false := beq_eq_false_iff_ne.2 (fun e => h (UInt8.toNat_inj.1 (by show s.toNat = 45; omega)))
    obtain ⟨m, hm2⟩ : ∃ m, s.toNat = m := ⟨_, rfl⟩
    rw [hm2] at h2 ⊢
    clear h hm2
    go_enter Tryd.func16, Tryd.ntmps16
    go_wp2
    go_ret
    exact ⟨by rw [hm.out]; rfl, rfl⟩
def abc : ByteArray := ⟨#[65, 66, 67, 68, 69, 70, 71, 72, 73, 74, 75, 76, 77, 78, 79, 80, 81, 82, 83, 84, 85, 86, 87, 88, 89, 90]⟩
theorem abc_at {k : Nat} (h : k < 26) : ∃ h2 : k < abc.size, (abc[k]'h2).toNat = 65 + k := by
  have key : ∀ y : Fin 26, ∃ h2 : y.1 < abc.size, (abc[y.1]'h2).toNat = 65 + y.1 := by decide
  exact key ⟨k, h⟩
theorem abc_next {P : Program} {w : World} {g k : Nat} (ty : TypeId) (hk : w.heap[g]? = some (.stringIter abc k)) (h : k < 26) : (Instr.next (.pointer (some ⟨g, 0, none⟩)) true ty).run P w = .ok (.tuple #[.bool true, .int .i64 k, .int .i32 (65 + (k : Int))]) (w.iterAt g abc (k + 1)) := by
  obtain ⟨h2, h3⟩ := abc_at h
  rw [Lib.run_next_ascii_at w g abc k ty hk h2 (by omega), h3]
  rfl
theorem abc_end {P : Program} {w : World} {g : Nat} (ty : TypeId) (hk : w.heap[g]? = some (.stringIter abc 26)) : (Instr.next (.pointer (some ⟨g, 0, none⟩)) true ty).run P w = .ok (.tuple #[.bool false]) w :=
  Lib.run_next_end_at w g abc 26 ty hk (by decide)
theorem enc_letter {x : Nat} (h : x < 26) : Utf8.encode (65 + (x : Int)) = lt x := by
  have key : ∀ y : Fin 26, Utf8.encode (65 + ((y.1 : Nat) : Int)) = lt y.1 := by decide
  exact key ⟨x, h⟩
theorem below_iter (w : World) (s : ByteArray) (p : Nat) : Below w.heap.size w (w.iter s p) := (Below.refl _ w).alloc (Nat.le_refl _) _
set_option maxHeartbeats 1600000 in
theorem impl_LetterOf (x : Nat) (hx : x < 26) (w : World) : Calls Tryd.prog 7 #[.string (sgB x)] w fun e w' => e = .returned (.tuple #[.string (lt x), .int .i64 0]) ∧ Below w.heap.size w w' := by
  go_enter Tryd.func7, Tryd.ntmps7
  go_wp2
  go_loopw [] (fun wr => ∃ k : Nat, wr.heap[w.heap.size]? = some (.stringIter abc k) ∧ k ≤ x ∧ Below w.heap.size w wr) (fun wr => 26 - wr.iterPos w.heap.size)
  case atStart => exact ⟨0, World.iter_heap w abc 0, Nat.zero_le _, below_iter w _ _⟩
  case round =>
    obtain ⟨k, hit, hk, hB1⟩ := hrel
    have hsz : w.heap.size < wr.heap.size := (Array.getElem?_eq_some_iff.1 hit).1
    have hnx : ∀ ty, (Instr.next (.pointer (some ⟨w.heap.size, 0, none⟩)) true ty).run Tryd.prog wr = _ := fun ty => abc_next ty hit (by omega)
    have hit2 := Lib.iterAt_heap wr w.heap.size abc k (k + 1) hit
    have hbw2 := Lib.below_iterAt hB1 (k := w.heap.size) (by omega) abc (k + 1)
    have he := enc_letter (show k < 26 by omega)
    have hk6 : k < 26 := by omega
    by_cases hkx : k = x
    · subst hkx
      go_wp2_with (go_at_call 13; refine (impl_signs _ hk6 _).mono ?_; rintro e w' ⟨rfl, rfl⟩)
      go_ret2
      exact ⟨rfl, hbw2⟩
    · have hne := sgB_ne hk6 hx hkx
      go_wp2_with (go_at_call 13; refine (impl_signs _ hk6 _).mono ?_; rintro e w' ⟨rfl, rfl⟩)
      go_roundw
      case rel => exact ⟨k + 1, hit2, by omega, hbw2⟩
      case measure => simp only [World.iterPos, hit2, hit]; omega
theorem sg_app (σ : List UInt8) (k : Nat) (h : k < σ.length) : unSum (σ.take (k + 1)) = unSum (σ.take k) + un σ[k] := by
  unfold unSum
  rw [List.take_succ_eq_append_getElem h, List.map_append, List.sum_append]
  simp
theorem unSum_le (σ : List UInt8) : unSum σ ≤ 3 * σ.length := by
  induction σ with
  | nil => exact Nat.le_refl _
  | cons s r ih => have := un_bd s; unfold unSum at ih ⊢; simp only [List.map_cons, List.sum_cons, List.length_cons]; omega
def mlen (σ : List UInt8) : Nat := σ.length - 1 + unSum σ
theorem conv_bytes (w : World) (σ : List UInt8) : ∃ (c : Nat) (w' : World), (convert 9 22 (.string ⟨σ.toArray⟩)).run Tryd.prog w = .ok (.slice (some ⟨w.heap.size, 0, none⟩) σ.length c) w' ∧ Below w.heap.size w w' ∧ w'.heap.size = w.heap.size + 1 ∧ ∀ (j : Nat) (hj : j < σ.length), w'.cell? ⟨w.heap.size, j, none⟩ = some (.int .u8 (σ[j]'hj).toNat) := by
  have hsz : (⟨σ.toArray⟩ : ByteArray).size = σ.length := by show σ.toArray.size = _; simp
  refine ⟨grownCap w σ.length 0 5, Lib.bytesWorld w 5 ⟨σ.toArray⟩, ?_, ?_, ?_, fun j hj => ?_⟩
  · rw [Lib.run_convert_string_bytes (u := .string) w _ _ 5 _ Tryd.underlying9 Tryd.underlying22 Tryd.underlying5, hsz]
  · exact ⟨rfl, rfl, rfl, by rw [Lib.bytesWorld_size]; omega, fun k hk => Lib.bytesWorld_at_old _ _ _ k hk⟩
  · exact Lib.bytesWorld_size _ _ _
  · rw [Lib.bytesWorld_cell _ _ _ j (by rw [hsz]; exact hj)]
    simp [List.getD_eq_getElem?_getD, List.getElem?_eq_getElem hj]
set_option maxHeartbeats 1600000 in
theorem impl_MLen (x : Nat) (hx : x < 26) (w : World) : Calls Tryd.prog 9 #[.string (lt x)] w fun e w' => e = .returned (.tuple #[.int .i64 (mlen (sg x)), .int .i64 0]) ∧ Below w.heap.size w w' := by
  have h1 := sgB_some hx
  have h2 := sg_len hx
  have h3 := sgB_size x
  have hml : Hid (mlen (sg x) = (sg x).length - 1 + unSum ((sg x).take (sg x).length)) := Lib.hid (by rw [List.take_length]; rfl)
  have hsl := fun w => (impl_signs x hx w)
  obtain ⟨c, w1, hcv, hb1, hz1, hcell⟩ := conv_bytes w (sg x)
  have hcv : (convert 9 22 (.string (sgB x))).run Tryd.prog w = .ok (.slice (some ⟨w.heap.size, 0, none⟩) (sg x).length c) w1 := hcv
  have hcell' := Lib.hid hcell
  have hz1' := Lib.hid hz1
  obtain ⟨s, hs⟩ : ∃ s, sgB x = s := ⟨_, rfl⟩
  obtain ⟨σ, hσ⟩ : ∃ σ, sg x = σ := ⟨_, rfl⟩
  rw [hs] at h1 h3 hsl hcv
  rw [hσ] at h2 h3 hml hcv hcell'
  clear hs hcell hz1
  have hcvn := hcv
  go_enter Tryd.func9, Tryd.ntmps9
  go_wp2_with (go_at_call 13; refine (hsl _).mono ?_; rintro e w' ⟨rfl, rfl⟩)
  go_loopw [5, 18] (fun t i wr => ∃ k : Nat, t = .int .i64 ((σ.length - 1 + unSum (σ.take k) : Nat) : Int) ∧ i = .int .i64 k ∧ k ≤ σ.length ∧ w1 = wr) (fun _ i _ => σ.length - (intOf i).toNat)
  case atStart => exact ⟨0, by simp [unSum]; omega, rfl, Nat.zero_le _, rfl⟩
  case round =>
    obtain ⟨k, rfl, rfl, hk, rfl⟩ := hrel
    by_cases hlt : k < σ.length
    · have d0 := hcell'.out k hlt
      have hst := Lib.hid (sg_app σ k hlt)
      have hbd := un_bd σ[k]
      have hle := unSum_le (σ.take k)
      have hlen : (σ.take k).length = k := by rw [List.length_take]; omega
      rw [hlen] at hle
      have hw : w.heap.size < w1.heap.size := by have := hz1'.out; omega
      have hu := fun w => impl_units σ[k] w
      obtain ⟨s2, hs2⟩ : ∃ s2, σ[k] = s2 := ⟨_, rfl⟩
      obtain ⟨S, hS⟩ : ∃ S, unSum (σ.take k) = S := ⟨_, rfl⟩
      rw [hs2] at d0 hst hbd hu
      rw [hS] at hst hle ⊢
      obtain ⟨n, hn⟩ : ∃ n, un s2 = n := ⟨_, rfl⟩
      rw [hn] at hst hbd hu
      clear hs2 hS hn hlen
      go_wp2_with (go_at_call 16; refine (hu _).mono ?_; rintro e w' ⟨rfl, rfl⟩)
      go_roundw
      case rel => exact ⟨k + 1, by rw [hst.out]; go_num, by go_num, by omega, by first | rfl | trivial⟩
      case measure => simp [intOf]; omega
    · obtain rfl : k = σ.length := by omega
      go_wp2
      go_ret2
      exact ⟨by rw [hσ, hml.out]; rfl, hb1⟩
end Go.Proofs.YtpnffdkkmibchaaDoor
