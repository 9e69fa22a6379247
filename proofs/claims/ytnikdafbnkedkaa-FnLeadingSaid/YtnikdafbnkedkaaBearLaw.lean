/-
  Plain laws of the best of 360 directions: there and back are opposite; the step along it ends near the point. No program in sight.
-/
import Derived.Test.YtnikdafbnkedkaaSine
import Derived.Test.YtnikdafbnkedkaaNum
set_option linter.unusedVariables false
set_option maxRecDepth 100000
namespace Go.Proofs.Ytnikdafbnkedkaa

/-- Sine and cosine of the degrees 0 to 359. -/
def dirs : List (Int × Int) := [(0, 1000000), (17452, 999848), (34899, 999391), (52336, 998630), (69756, 997564), (87156, 996195), (104528, 994522), (121869, 992546), (139173, 990268), (156434, 987688), (173648, 984808), (190809, 981627), (207912, 978148), (224951, 974370), (241922, 970296), (258819, 965926), (275637, 961262), (292372, 956305), (309017, 951057), (325568, 945519), (342020, 939693), (358368, 933580), (374607, 927184), (390731, 920505), (406737, 913545), (422618, 906308), (438371, 898794), (453990, 891007), (469472, 882948), (484810, 874620), (500000, 866025), (515038, 857167), (529919, 848048), (544639, 838671), (559193, 829038), (573576, 819152), (587785, 809017), (601815, 798636), (615661, 788011), (629320, 777146), (642788, 766044), (656059, 754710), (669131, 743145), (681998, 731354), (694658, 719340), (707107, 707107), (719340, 694658), (731354, 681998), (743145, 669131), (754710, 656059), (766044, 642788), (777146, 629320), (788011, 615661), (798636, 601815), (809017, 587785), (819152, 573576), (829038, 559193), (838671, 544639), (848048, 529919), (857167, 515038), (866025, 500000), (874620, 484810), (882948, 469472), (891007, 453990), (898794, 438371), (906308, 422618), (913545, 406737), (920505, 390731), (927184, 374607), (933580, 358368), (939693, 342020), (945519, 325568), (951057, 309017), (956305, 292372), (961262, 275637), (965926, 258819), (970296, 241922), (974370, 224951), (978148, 207912), (981627, 190809), (984808, 173648), (987688, 156434), (990268, 139173), (992546, 121869), (994522, 104528), (996195, 87156), (997564, 69756), (998630, 52336), (999391, 34899), (999848, 17452), (1000000, 0), (999848, -17452), (999391, -34899), (998630, -52336), (997564, -69756), (996195, -87156), (994522, -104528), (992546, -121869), (990268, -139173), (987688, -156434), (984808, -173648), (981627, -190809), (978148, -207912), (974370, -224951), (970296, -241922), (965926, -258819), (961262, -275637), (956305, -292372), (951057, -309017), (945519, -325568), (939693, -342020), (933580, -358368), (927184, -374607), (920505, -390731), (913545, -406737), (906308, -422618), (898794, -438371), (891007, -453990), (882948, -469472), (874620, -484810), (866025, -500000), (857167, -515038), (848048, -529919), (838671, -544639), (829038, -559193), (819152, -573576), (809017, -587785), (798636, -601815), (788011, -615661), (777146, -629320), (766044, -642788), (754710, -656059), (743145, -669131), (731354, -681998), (719340, -694658), (707107, -707107), (694658, -719340), (681998, -731354), (669131, -743145), (656059, -754710), (642788, -766044), (629320, -777146), (615661, -788011), (601815, -798636), (587785, -809017), (573576, -819152), (559193, -829038), (544639, -838671), (529919, -848048), (515038, -857167), (500000, -866025), (484810, -874620), (469472, -882948), (453990, -891007), (438371, -898794), (422618, -906308), (406737, -913545), (390731, -920505), (374607, -927184), (358368, -933580), (342020, -939693), (325568, -945519), (309017, -951057), (292372, -956305), (275637, -961262), (258819, -965926), (241922, -970296), (224951, -974370), (207912, -978148), (190809, -981627), (173648, -984808), (156434, -987688), (139173, -990268), (121869, -992546), (104528, -994522), (87156, -996195), (69756, -997564), (52336, -998630), (34899, -999391), (17452, -999848), (0, -1000000), (-17452, -999848), (-34899, -999391), (-52336, -998630), (-69756, -997564), (-87156, -996195), (-104528, -994522), (-121869, -992546), (-139173, -990268), (-156434, -987688), (-173648, -984808), (-190809, -981627), (-207912, -978148), (-224951, -974370), (-241922, -970296), (-258819, -965926), (-275637, -961262), (-292372, -956305), (-309017, -951057), (-325568, -945519), (-342020, -939693), (-358368, -933580), (-374607, -927184), (-390731, -920505), (-406737, -913545), (-422618, -906308), (-438371, -898794), (-453990, -891007), (-469472, -882948), (-484810, -874620), (-500000, -866025), (-515038, -857167), (-529919, -848048), (-544639, -838671), (-559193, -829038), (-573576, -819152), (-587785, -809017), (-601815, -798636), (-615661, -788011), (-629320, -777146), (-642788, -766044), (-656059, -754710), (-669131, -743145), (-681998, -731354), (-694658, -719340), (-707107, -707107), (-719340, -694658), (-731354, -681998), (-743145, -669131), (-754710, -656059), (-766044, -642788), (-777146, -629320), (-788011, -615661), (-798636, -601815), (-809017, -587785), (-819152, -573576), (-829038, -559193), (-838671, -544639), (-848048, -529919), (-857167, -515038), (-866025, -500000), (-874620, -484810), (-882948, -469472), (-891007, -453990), (-898794, -438371), (-906308, -422618), (-913545, -406737), (-920505, -390731), (-927184, -374607), (-933580, -358368), (-939693, -342020), (-945519, -325568), (-951057, -309017), (-956305, -292372), (-961262, -275637), (-965926, -258819), (-970296, -241922), (-974370, -224951), (-978148, -207912), (-981627, -190809), (-984808, -173648), (-987688, -156434), (-990268, -139173), (-992546, -121869), (-994522, -104528), (-996195, -87156), (-997564, -69756), (-998630, -52336), (-999391, -34899), (-999848, -17452), (-1000000, 0), (-999848, 17452), (-999391, 34899), (-998630, 52336), (-997564, 69756), (-996195, 87156), (-994522, 104528), (-992546, 121869), (-990268, 139173), (-987688, 156434), (-984808, 173648), (-981627, 190809), (-978148, 207912), (-974370, 224951), (-970296, 241922), (-965926, 258819), (-961262, 275637), (-956305, 292372), (-951057, 309017), (-945519, 325568), (-939693, 342020), (-933580, 358368), (-927184, 374607), (-920505, 390731), (-913545, 406737), (-906308, 422618), (-898794, 438371), (-891007, 453990), (-882948, 469472), (-874620, 484810), (-866025, 500000), (-857167, 515038), (-848048, 529919), (-838671, 544639), (-829038, 559193), (-819152, 573576), (-809017, 587785), (-798636, 601815), (-788011, 615661), (-777146, 629320), (-766044, 642788), (-754710, 656059), (-743145, 669131), (-731354, 681998), (-719340, 694658), (-707107, 707107), (-694658, 719340), (-681998, 731354), (-669131, 743145), (-656059, 754710), (-642788, 766044), (-629320, 777146), (-615661, 788011), (-601815, 798636), (-587785, 809017), (-573576, 819152), (-559193, 829038), (-544639, 838671), (-529919, 848048), (-515038, 857167), (-500000, 866025), (-484810, 874620), (-469472, 882948), (-453990, 891007), (-438371, 898794), (-422618, 906308), (-406737, 913545), (-390731, 920505), (-374607, 927184), (-358368, 933580), (-342020, 939693), (-325568, 945519), (-309017, 951057), (-292372, 956305), (-275637, 961262), (-258819, 965926), (-241922, 970296), (-224951, 974370), (-207912, 978148), (-190809, 981627), (-173648, 984808), (-156434, 987688), (-139173, 990268), (-121869, 992546), (-104528, 994522), (-87156, 996195), (-69756, 997564), (-52336, 998630), (-34899, 999391), (-17452, 999848)]
theorem dirs_at : ∀ k, k < 360 → dirs.getD k (0, 0) = (sinM k, cosM k) := by decide +kernel
def nrm (a b : Int × Int) : Int × Int := (a.2 - b.2, b.1 - a.1)
def dot (a b : Int × Int) : Int := a.1 * b.1 + a.2 * b.2
/-- Of all directions the two ends of edge k lie farthest out. -/
def edgeOk (k : Nat) (a b : Int × Int) : Bool := dirs.zipIdx.all fun p => p.2 == k || p.2 == (k + 1) % 360 || decide (dot (nrm a b) p.1 < dot (nrm a b) a)
def edges : List ((Int × Int) × (Int × Int)) := dirs.zip (dirs.drop 1 ++ dirs.take 1)
theorem edges_ok : (edges.zipIdx.all fun q => edgeOk q.2 q.1.1 q.1.2) = true := by decide +kernel
theorem edge_at (k : Nat) (hk : k < 360) : edges[k]? = some ((sinM k, cosM k), (sinM ((k : Int) + 1), cosM ((k : Int) + 1))) := by
  revert k; decide +kernel

def pd (d : Int) : Int × Int := (sinM d, cosM d)
theorem cosM_mod {d e : Int} (h : d % 360 = e % 360) : cosM d = cosM e := by rw [cosM_eq, cosM_eq]; exact sinM_mod _ _ (by omega)
theorem pd_mod {d e : Int} (h : d % 360 = e % 360) : pd d = pd e := by unfold pd; rw [sinM_mod _ _ h, cosM_mod h]
theorem sinM_half (d : Int) : sinM (d + 180) = -sinM d := by
  unfold sinM
  rcases (by omega : d % 360 < 180 ∨ 180 ≤ d % 360) with h | h
  · rw [if_pos (show 180 ≤ (d + 180) % 360 by omega), if_neg (show ¬ 180 ≤ d % 360 by omega), show (d + 180) % 360 - 180 = d % 360 by omega]
  · rw [if_neg (show ¬ 180 ≤ (d + 180) % 360 by omega), if_pos h, show (d + 180) % 360 = d % 360 - 180 by omega, Int.neg_neg]
theorem cosM_half (d : Int) : cosM (d + 180) = -cosM d := by
  rw [cosM_eq, cosM_eq, show d + 180 + 90 = d + 90 + 180 by omega, sinM_half]
theorem along_mod {dx dy d e : Int} (h : d % 360 = e % 360) : alongM dx dy d = alongM dx dy e := by unfold alongM; rw [sinM_mod _ _ h, cosM_mod h]
theorem along_neg (dx dy d : Int) : alongM (-dx) (-dy) d = alongM dx dy (d + 180) := by
  unfold alongM; rw [sinM_half, cosM_half]; simp [Int.neg_mul, Int.mul_neg]
theorem bestTo_inv (dx dy : Int) : ∀ k, (bestTo dx dy k).2 = alongM dx dy (bestTo dx dy k).1 ∧ ∀ j : Nat, j < k → alongM dx dy j ≤ (bestTo dx dy k).2
  | 0 => ⟨rfl, fun j h => by omega⟩
  | k + 1 => by
    obtain ⟨h1, h2⟩ := bestTo_inv dx dy k
    simp only [bestTo]
    split
    · rename_i h
      refine ⟨rfl, fun j hj => ?_⟩
      rcases (by omega : j < k ∨ j = k) with h3 | rfl
      · have := h2 j h3
        show _ ≤ alongM dx dy k
        omega
      · exact Int.le_refl _
    · rename_i h
      refine ⟨h1, fun j hj => ?_⟩
      rcases (by omega : j < k ∨ j = k) with h3 | rfl
      · exact h2 j h3
      · omega
theorem best_max (dx dy e : Int) : alongM dx dy e ≤ alongM dx dy (bearM dx dy) := by
  obtain ⟨j, hj⟩ := Int.eq_ofNat_of_zero_le (show 0 ≤ e % 360 by omega)
  have h := bestTo_inv dx dy 360
  have := h.2 j (by omega)
  rw [along_mod (show e % 360 = (j : Int) % 360 by omega)]
  unfold bearM
  rw [← h.1]
  exact this
theorem edge_lt {k e : Nat} (hk : k < 360) (he : e < 360) (h1 : e ≠ k) (h2 : e ≠ (k + 1) % 360) : dot (nrm (pd k) (pd ((k : Int) + 1))) (pd e) < dot (nrm (pd k) (pd ((k : Int) + 1))) (pd k) := by
  have h := List.all_eq_true.1 edges_ok (((pd k), (pd ((k : Int) + 1))), k) (List.mem_iff_getElem?.2 ⟨k, by rw [List.getElem?_zipIdx, edge_at k hk]; simp [pd]⟩)
  have hd : dirs[e]? = some (pd e) := by
    have := dirs_at e he
    have hl : dirs.length = 360 := by decide
    rw [List.getD_eq_getElem?_getD, List.getElem?_eq_getElem (by omega)] at this
    rw [List.getElem?_eq_getElem (by omega)]
    exact congrArg some this
  have h' := List.all_eq_true.1 h (pd e, e) (List.mem_iff_getElem?.2 ⟨e, by rw [List.getElem?_zipIdx, hd]; simp⟩)
  simp only [Bool.or_eq_true, beq_iff_eq, decide_eq_true_eq] at h'
  rcases h' with (h' | h') | h'
  · exact absurd h' h1
  · exact absurd h' h2
  · exact h'
/-- What the table pays at direction k. -/
def qualAt (s c s1 c1 s0 c0 : Int) : Bool :=
  decide (0 < (c - c1) * (s - s0) - (s1 - s) * (c0 - c)) && decide (0 ≤ (c - c1) * s + (s1 - s) * c) && decide (0 ≤ (c0 - c) * s + (s - s0) * c) &&
  decide (999923000000 * ((c - c1) * (c - c1) + (s1 - s) * (s1 - s)) ≤ ((c - c1) * s + (s1 - s) * c) * ((c - c1) * s + (s1 - s) * c)) &&
  decide (999923000000 * ((c0 - c) * (c0 - c) + (s - s0) * (s - s0)) ≤ ((c0 - c) * s + (s - s0) * c) * ((c0 - c) * s + (s - s0) * c)) &&
  decide (999923000000 * ((c - c1) * (c0 - c) + (s1 - s) * (s - s0)) ≤ ((c - c1) * s + (s1 - s) * c) * ((c0 - c) * s + (s - s0) * c)) &&
  decide (s * s + c * c ≤ 1000001129488) && decide (999999000000 ≤ s * s + c * c)
theorem qual_ok : ∀ k : Nat, k < 360 → qualAt (sinM k) (cosM k) (sinM ((k : Int) + 1)) (cosM ((k : Int) + 1)) (sinM ((k : Int) - 1)) (cosM ((k : Int) - 1)) = true := by decide +kernel

theorem pos_of_mul {a b : Int} (ha : 0 < a) (h : 0 ≤ a * b) : 0 ≤ b := by
  rcases Int.lt_or_le b 0 with h1 | h1
  · have := Int.mul_neg_of_pos_of_neg ha h1; omega
  · exact h1
theorem zero_of_mul {a b : Int} (ha : 0 < a) (h : a * b = 0) : b = 0 := by
  rcases Int.mul_eq_zero.1 h with h1 | h1
  · omega
  · exact h1

/-- The cone of a best direction: the two gaps to its neighbours give back the point. -/
theorem cone_x (X Y s c s1 c1 s0 c0 : Int) : ((c - c1) * (s - s0) - (s1 - s) * (c0 - c)) * X = (X * s + Y * c - (X * s0 + Y * c0)) * (c - c1) + (X * s + Y * c - (X * s1 + Y * c1)) * (c0 - c) := by grind
theorem cone_y (X Y s c s1 c1 s0 c0 : Int) : ((c - c1) * (s - s0) - (s1 - s) * (c0 - c)) * Y = (X * s + Y * c - (X * s0 + Y * c0)) * (s1 - s) + (X * s + Y * c - (X * s1 + Y * c1)) * (s - s0) := by grind

/-- A second direction that is as good is the best one's neighbour. -/
theorem best_near {X Y : Int} (hne : ¬ (X = 0 ∧ Y = 0)) {e : Nat} (he : e < 360) (hf : alongM X Y e = alongM X Y (bearM X Y)) :
    (e : Int) % 360 = bearM X Y % 360 ∨ (e : Int) % 360 = (bearM X Y + 1) % 360 ∨ (e : Int) % 360 = (bearM X Y - 1) % 360 := by
  have hb := bearM_bd X Y
  obtain ⟨d, hd⟩ := Int.eq_ofNat_of_zero_le hb.1
  have hm := best_max X Y
  rw [hd] at hm hf hb ⊢
  have hdl : d < 360 := by omega
  by_cases h1 : e = d
  · left; omega
  by_cases h2 : e = (d + 1) % 360
  · right; left; omega
  by_cases h3 : e = (d + 359) % 360
  · right; right; omega
  exfalso
  have g1 := edge_lt hdl he h1 h2
  have g0 := edge_lt (k := (d + 359) % 360) (by omega) he h3 (by omega)
  have q := qual_ok d hdl
  rw [pd_mod (d := (((d + 359) % 360 : Nat) : Int)) (e := (d : Int) - 1) (by omega), pd_mod (d := (((d + 359) % 360 : Nat) : Int) + 1) (e := (d : Int)) (by omega)] at g0
  have f1 := hm ((d : Int) + 1)
  have f0 := hm ((d : Int) - 1)
  simp only [qualAt, Bool.and_eq_true, decide_eq_true_eq] at q
  obtain ⟨⟨⟨⟨⟨⟨⟨q1, _⟩, _⟩, _⟩, _⟩, _⟩, _⟩, _⟩ := q
  clear hm
  simp only [alongM, dot, nrm, pd] at *
  generalize sinM (d : Int) = s at *
  generalize cosM (d : Int) = c at *
  generalize sinM ((d : Int) + 1) = s1 at *
  generalize cosM ((d : Int) + 1) = c1 at *
  generalize sinM ((d : Int) - 1) = s0 at *
  generalize cosM ((d : Int) - 1) = c0 at *
  generalize sinM (e : Int) = u at *
  generalize cosM (e : Int) = v at *
  have k1 := cone_x X Y s c s1 c1 s0 c0
  have k2 := cone_y X Y s c s1 c1 s0 c0
  obtain ⟨a, ha⟩ : ∃ a, X * s + Y * c - (X * s0 + Y * c0) = a := ⟨_, rfl⟩
  obtain ⟨b, hb'⟩ : ∃ b, X * s + Y * c - (X * s1 + Y * c1) = b := ⟨_, rfl⟩
  obtain ⟨D, hD⟩ : ∃ D, (c - c1) * (s - s0) - (s1 - s) * (c0 - c) = D := ⟨_, rfl⟩
  obtain ⟨m1, hm1⟩ : ∃ m, ((c - c1) * s + (s1 - s) * c) - ((c - c1) * u + (s1 - s) * v) = m := ⟨_, rfl⟩
  obtain ⟨m0, hm0⟩ : ∃ m, ((c0 - c) * s0 + (s - s0) * c0) - ((c0 - c) * u + (s - s0) * v) = m := ⟨_, rfl⟩
  have key : D * (X * s + Y * c - (X * u + Y * v)) = a * m1 + b * m0 := by
    rw [← hD, ← ha, ← hb', ← hm1, ← hm0]; grind
  rw [ha, hb', hD] at k1 k2
  rw [hD] at q1
  have a0 : 0 ≤ a := by omega
  have b0 : 0 ≤ b := by omega
  have p1 : 1 ≤ m1 := by omega
  have p0 : 1 ≤ m0 := by omega
  have z : X * s + Y * c - (X * u + Y * v) = 0 := by omega
  rw [z, Int.mul_zero] at key
  have t1 : a * 1 ≤ a * m1 := Int.mul_le_mul_of_nonneg_left p1 a0
  have t0 : b * 1 ≤ b * m0 := Int.mul_le_mul_of_nonneg_left p0 b0
  have ea : a = 0 := by omega
  have eb : b = 0 := by omega
  rw [ea, eb] at k1 k2
  simp only [Int.zero_mul, Int.add_zero] at k1 k2
  exact hne ⟨zero_of_mul q1 k1, zero_of_mul q1 k2⟩

/-- There and back are opposite, within one degree. -/
theorem bear_back {X Y : Int} (hne : ¬ (X = 0 ∧ Y = 0)) : 179 ≤ (bearM X Y - bearM (-X) (-Y)) % 360 ∧ (bearM X Y - bearM (-X) (-Y)) % 360 ≤ 181 := by
  have hb := bearM_bd X Y
  have hb2 := bearM_bd (-X) (-Y)
  obtain ⟨e, he⟩ := Int.eq_ofNat_of_zero_le (show 0 ≤ (bearM (-X) (-Y) + 180) % 360 by omega)
  have h1 := best_max X Y (e : Int)
  have h2 := best_max (-X) (-Y) (bearM X Y + 180)
  rw [along_neg, along_neg, along_mod (d := bearM X Y + 180 + 180) (e := bearM X Y) (by omega), along_mod (d := bearM (-X) (-Y) + 180) (e := (e : Int)) (by omega)] at h2
  have h3 := best_near hne (e := e) (by omega) (by omega)
  omega

/-- The best direction is near: the square of the reach is near the square of the distance. -/
theorem best_reach (X Y : Int) : 0 ≤ alongM X Y (bearM X Y) ∧ 999923000000 * (X * X + Y * Y) ≤ alongM X Y (bearM X Y) * alongM X Y (bearM X Y) ∧ sinM (bearM X Y) * sinM (bearM X Y) + cosM (bearM X Y) * cosM (bearM X Y) ≤ 1000001129488 := by
  have hb := bearM_bd X Y
  obtain ⟨d, hd⟩ := Int.eq_ofNat_of_zero_le hb.1
  have hm := best_max X Y
  rw [hd] at hm hb ⊢
  have hdl : d < 360 := by omega
  have q := qual_ok d hdl
  have f1 := hm ((d : Int) + 1)
  have f0 := hm ((d : Int) - 1)
  simp only [qualAt, Bool.and_eq_true, decide_eq_true_eq] at q
  obtain ⟨⟨⟨⟨⟨⟨⟨q1, q2⟩, q3⟩, q4⟩, q5⟩, q6⟩, q7⟩, _⟩ := q
  clear hm
  simp only [alongM] at *
  generalize sinM (d : Int) = s at *
  generalize cosM (d : Int) = c at *
  generalize sinM ((d : Int) + 1) = s1 at *
  generalize cosM ((d : Int) + 1) = c1 at *
  generalize sinM ((d : Int) - 1) = s0 at *
  generalize cosM ((d : Int) - 1) = c0 at *
  have k1 := cone_x X Y s c s1 c1 s0 c0
  have k2 := cone_y X Y s c s1 c1 s0 c0
  have a0 : 0 ≤ X * s + Y * c - (X * s0 + Y * c0) := by omega
  have b0 : 0 ≤ X * s + Y * c - (X * s1 + Y * c1) := by omega
  generalize X * s + Y * c - (X * s0 + Y * c0) = a at *
  generalize X * s + Y * c - (X * s1 + Y * c1) = b at *
  obtain ⟨D, hD⟩ : ∃ D, (c - c1) * (s - s0) - (s1 - s) * (c0 - c) = D := ⟨_, rfl⟩
  rw [hD] at k1 k2 q1
  obtain ⟨F, hF⟩ : ∃ F, X * s + Y * c = F := ⟨_, rfl⟩
  obtain ⟨n1, hn1⟩ : ∃ n, (c - c1) * s + (s1 - s) * c = n := ⟨_, rfl⟩
  obtain ⟨n0, hn0⟩ : ∃ n, (c0 - c) * s + (s - s0) * c = n := ⟨_, rfl⟩
  rw [hn1] at q2 q4 q6
  rw [hn0] at q3 q5 q6
  have e1 : D * F = a * n1 + b * n0 := by rw [← hF, ← hn1, ← hn0]; grind
  have e2 : D * D * (X * X + Y * Y) = a * a * ((c - c1) * (c - c1) + (s1 - s) * (s1 - s)) + 2 * (a * b * ((c - c1) * (c0 - c) + (s1 - s) * (s - s0))) + b * b * ((c0 - c) * (c0 - c) + (s - s0) * (s - s0)) := by
    have : D * D * (X * X + Y * Y) = (D * X) * (D * X) + (D * Y) * (D * Y) := by grind
    rw [this, k1, k2]; grind
  have e3 : D * D * (F * F) = a * a * (n1 * n1) + 2 * (a * b * (n1 * n0)) + b * b * (n0 * n0) := by
    have : D * D * (F * F) = (D * F) * (D * F) := by grind
    rw [this, e1]; grind
  generalize (c - c1) * (c - c1) + (s1 - s) * (s1 - s) = N11 at *
  generalize (c - c1) * (c0 - c) + (s1 - s) * (s - s0) = N10 at *
  generalize (c0 - c) * (c0 - c) + (s - s0) * (s - s0) = N00 at *
  have i1 := Int.mul_le_mul_of_nonneg_left q4 (Int.mul_nonneg a0 a0)
  have i2 := Int.mul_le_mul_of_nonneg_left q6 (Int.mul_nonneg a0 b0)
  have i3 := Int.mul_le_mul_of_nonneg_left q5 (Int.mul_nonneg b0 b0)
  rw [hF]
  refine ⟨pos_of_mul q1 (by rw [e1]; exact Int.add_nonneg (Int.mul_nonneg a0 q2) (Int.mul_nonneg b0 q3)), ?_, q7⟩
  have : 0 ≤ D * D * (F * F - 999923000000 * (X * X + Y * Y)) := by
    have e4 : D * D * (F * F - 999923000000 * (X * X + Y * Y)) = D * D * (F * F) - 999923000000 * (D * D * (X * X + Y * Y)) := by grind
    rw [e4, e2, e3]
    grind
  have := pos_of_mul (Int.mul_pos q1 q1) this
  omega

theorem divR_mil (z : Int) : -1000000 ≤ 2000000 * divR z 1000000 - 2 * z ∧ 2000000 * divR z 1000000 - 2 * z ≤ 1000000 := by
  unfold divR
  rw [if_neg (by omega)]
  split <;> omega
theorem sq_le_of {a b : Int} (ha : 0 ≤ a) (hb : 0 ≤ b) (h : a * a ≤ b * b) : a ≤ b := by
  rcases Int.lt_or_le b a with h1 | h1
  · have := Int.mul_le_mul (show b + 1 ≤ a by omega) (show b + 1 ≤ a by omega) (by omega) ha
    have e : (b + 1) * (b + 1) = b * b + 2 * b + 1 := by grind
    omega
  · exact h1
theorem sq_nonneg (a : Int) : 0 ≤ a * a := by
  rcases Int.le_total 0 a with h | h
  · exact Int.mul_nonneg h h
  · exact Int.mul_nonneg_of_nonpos_of_nonpos h h
/-- The step of D along the best direction, rounded, ends near the point (X, Y), whose distance, rounded down, is D. -/
theorem move_near {X Y D : Int} (h0 : 0 ≤ D) (h1 : D ≤ 300000) (h2 : D * D ≤ X * X + Y * Y) (h3 : X * X + Y * Y < (D + 1) * (D + 1)) :
    (divR (D * sinM (bearM X Y)) 1000000 - X) * (divR (D * sinM (bearM X Y)) 1000000 - X) + (divR (D * cosM (bearM X Y)) 1000000 - Y) * (divR (D * cosM (bearM X Y)) 1000000 - Y) < (D / 100 + 4) * (D / 100 + 4) := by
  obtain ⟨k1, k2, k3⟩ := best_reach X Y
  unfold alongM at k1 k2
  generalize sinM (bearM X Y) = s at *
  generalize cosM (bearM X Y) = c at *
  have r1 := divR_mil (D * s)
  have r2 := divR_mil (D * c)
  generalize divR (D * s) 1000000 = u at *
  generalize divR (D * c) 1000000 = v at *
  obtain ⟨F, hF⟩ : ∃ F, X * s + Y * c = F := ⟨_, rfl⟩
  obtain ⟨R, hR⟩ : ∃ R, s * s + c * c = R := ⟨_, rfl⟩
  obtain ⟨N, hN⟩ : ∃ N, X * X + Y * Y = N := ⟨_, rfl⟩
  rw [hF] at k1 k2
  rw [hR] at k3
  rw [hN] at h2 h3 k2
  obtain ⟨V1, hV1⟩ : ∃ V, D * s - 1000000 * X = V := ⟨_, rfl⟩
  obtain ⟨V2, hV2⟩ : ∃ V, D * c - 1000000 * Y = V := ⟨_, rfl⟩
  have hDD := sq_nonneg D
  -- Cauchy: F is at most 1000001 (D + 1)
  have cs : F * F + (X * c - Y * s) * (X * c - Y * s) = R * N := by rw [← hF, ← hR, ← hN]; grind
  have c1 := sq_nonneg (X * c - Y * s)
  have N0 : 0 ≤ N := by omega
  have eD : (D + 1) * (D + 1) = D * D + 2 * D + 1 := by grind
  have c2 : R * N ≤ 1000002000001 * N := Int.mul_le_mul_of_nonneg_right (by omega) N0
  have e1 : (1000001 * (D + 1)) * (1000001 * (D + 1)) = 1000002000001 * (D * D + 2 * D + 1) := by grind
  have Fub : F ≤ 1000001 * (D + 1) := sq_le_of k1 (by omega) (by rw [e1]; omega)
  have e2 : (999961 * D) * (999961 * D) = 999922001521 * (D * D) := by grind
  have Flb : 999961 * D ≤ F := sq_le_of (by omega) k1 (by rw [e2]; omega)
  -- the gap's square
  have eV : V1 * V1 + V2 * V2 = D * D * (R - 1000000000000) + (1000000000000 * N - F * F) + (F - 1000000 * D) * (F - 1000000 * D) := by
    rw [← hV1, ← hV2, ← hR, ← hN, ← hF]; grind
  have g1 : D * D * (R - 1000000000000) ≤ D * D * 1129488 := Int.mul_le_mul_of_nonneg_left (by omega) hDD
  have eG : (D + 1000001) * (D + 1000001) = D * D + 2000002 * D + 1000002000001 := by grind
  have e39 : (39 * D) * (39 * D) = 1521 * (D * D) := by grind
  have g2 : (F - 1000000 * D) * (F - 1000000 * D) ≤ (D + 1000001) * (D + 1000001) + 1521 * (D * D) := by
    rcases Int.le_total 0 (F - 1000000 * D) with h | h
    · have := Int.mul_le_mul (show F - 1000000 * D ≤ D + 1000001 by omega) (show F - 1000000 * D ≤ D + 1000001 by omega) h (by omega)
      omega
    · have := Int.mul_le_mul (show -(F - 1000000 * D) ≤ 39 * D by omega) (show -(F - 1000000 * D) ≤ 39 * D by omega) (by omega) (by omega)
      rw [Int.neg_mul_neg, e39] at this
      have := sq_nonneg (D + 1000001)
      omega
  -- the rounding
  obtain ⟨x1, hx1⟩ : ∃ x, 2000000 * u - 2 * (D * s) = x := ⟨_, rfl⟩
  obtain ⟨x2, hx2⟩ : ∃ x, 2000000 * v - 2 * (D * c) = x := ⟨_, rfl⟩
  rw [hx1] at r1
  rw [hx2] at r2
  have t1 : x1 * x1 ≤ 1000000000000 := by have := (sq_bd (x := x1) (B := 1000000) (by omega) (by omega)).2; omega
  have t2 : x2 * x2 ≤ 1000000000000 := by have := (sq_bd (x := x2) (B := 1000000) (by omega) (by omega)).2; omega
  have y1 : 2000000 * (u - X) = 2 * V1 + x1 := by omega
  have y2 : 2000000 * (v - Y) = 2 * V2 + x2 := by omega
  have z1 : 16000000000000 * ((u - X) * (u - X)) = 20 * (V1 * V1) + 20 * (x1 * x1) - (2 * V1 - 4 * x1) * (2 * V1 - 4 * x1) := by
    have : 16000000000000 * ((u - X) * (u - X)) = 4 * ((2000000 * (u - X)) * (2000000 * (u - X))) := by grind
    rw [this, y1]; grind
  have z2 : 16000000000000 * ((v - Y) * (v - Y)) = 20 * (V2 * V2) + 20 * (x2 * x2) - (2 * V2 - 4 * x2) * (2 * V2 - 4 * x2) := by
    have : 16000000000000 * ((v - Y) * (v - Y)) = 4 * ((2000000 * (v - Y)) * (2000000 * (v - Y))) := by grind
    rw [this, y2]; grind
  have w1 := sq_nonneg (2 * V1 - 4 * x1)
  have w2 := sq_nonneg (2 * V2 - 4 * x2)
  -- the end
  obtain ⟨q, hq⟩ : ∃ q, D / 100 + 4 = q := ⟨_, rfl⟩
  rw [hq]
  have hq1 : D + 301 ≤ 100 * q := by omega
  have hq2 : (D + 301) * (D + 301) ≤ (100 * q) * (100 * q) := Int.mul_le_mul hq1 hq1 (by omega) (by omega)
  have e3 : (D + 301) * (D + 301) = D * D + 602 * D + 90601 := by grind
  have e4 : (100 * q) * (100 * q) = 10000 * (q * q) := by grind
  omega
end Go.Proofs.Ytnikdafbnkedkaa
