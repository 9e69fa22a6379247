/-
  The library's contracts that this seat leans on, laid at its own numbers (what the shelf's own two commands have written, cut to what is used). Under the conditions that each states.
-/
import Derived.Shelf.LaysM
import Derived.Shelf.LaysC
import Derived.Shelf.Strconv.ParseIntPublic10
import Derived.Shelf.Strconv.ErrVarParseInt
import Derived.Shelf.Strings.Cut
import Derived.Shelf.Strings.Prefix
import Derived.Shelf.Strings.Split
import Derived.Test.YtbikppndhidbpaaDoorProg
set_option linter.unusedVariables false
namespace Go.Proofs.YtbikppndhidbpaaDoor
open Go.Shelf
def sr_laysC174_ren : Go.Shelf.Ren := ⟨fun | 174 => 119 | 247 => 140 | 245 => 141 | 287 => 157 | 279 => 158 | 280 => 159 | 281 => 160 | 282 => 161 | 321 => 173 | 322 => 174 | 316 => 175 | 171 => 177 | 205 => 176 | 243 => 183 | 246 => 142 | 283 => 162 | 284 => 163 | 285 => 164 | 286 => 165 | 129 => 179 | 317 => 178 | 318 => 180 | 319 => 181 | 320 => 182 | 337 => 184 | 338 => 185 | n => n, fun | 9 => 9 | 3 => 3 | 2 => 2 | 75 => 138 | 85 => 139 | 4 => 4 | 167 => 164 | 5 => 5 | 53 => 134 | 175 => 165 | 46 => 154 | 168 => 167 | 37 => 22 | 0 => 0 | 210 => 187 | 21 => 21 | 127 => 194 | 145 => 197 | 143 => 195 | 171 => 171 | 173 => 174 | 212 => 190 | 51 => 182 | 20 => 20 | 213 => 191 | 232 => 199 | 233 => 200 | 80 => 201 | n => n, fun | 15 => 3 | 16 => 4 | 17 => 5 | 18 => 6 | 19 => 7 | n => n⟩

theorem sr_laysC174 : Go.Proofs.LaysC.n174 Tryd.prog sr_laysC174_ren := {
  mixed := by kernel_rfl
  f129 := Tryd.func179.trans (congrArg some (by kernel_rfl))
  f171 := Tryd.func177.trans (congrArg some (by kernel_rfl))
  f174 := Tryd.func119.trans (congrArg some (by kernel_rfl))
  f205 := Tryd.func176.trans (congrArg some (by kernel_rfl))
  f243 := Tryd.func183.trans (congrArg some (by kernel_rfl))
  f245 := Tryd.func141.trans (congrArg some (by kernel_rfl))
  f246 := Tryd.func142.trans (congrArg some (by kernel_rfl))
  f247 := Tryd.func140.trans (congrArg some (by kernel_rfl))
  f279 := Tryd.func158.trans (congrArg some (by kernel_rfl))
  f280 := Tryd.func159.trans (congrArg some (by kernel_rfl))
  f281 := Tryd.func160.trans (congrArg some (by kernel_rfl))
  f282 := Tryd.func161.trans (congrArg some (by kernel_rfl))
  f283 := Tryd.func162.trans (congrArg some (by kernel_rfl))
  f284 := Tryd.func163.trans (congrArg some (by kernel_rfl))
  f285 := Tryd.func164.trans (congrArg some (by kernel_rfl))
  f286 := Tryd.func165.trans (congrArg some (by kernel_rfl))
  f287 := Tryd.func157.trans (congrArg some (by kernel_rfl))
  f316 := Tryd.func175.trans (congrArg some (by kernel_rfl))
  f317 := Tryd.func178.trans (congrArg some (by kernel_rfl))
  f318 := Tryd.func180.trans (congrArg some (by kernel_rfl))
  f319 := Tryd.func181.trans (congrArg some (by kernel_rfl))
  f320 := Tryd.func182.trans (congrArg some (by kernel_rfl))
  f321 := Tryd.func173.trans (congrArg some (by kernel_rfl))
  f322 := Tryd.func174.trans (congrArg some (by kernel_rfl))
  f337 := Tryd.func184.trans (congrArg some (by kernel_rfl))
  f338 := Tryd.func185.trans (congrArg some (by kernel_rfl))
  t0 := Tryd.underlying0
  a0 := Tryd.isAgg0
  z0 := Tryd.sizeOf0
  v0 := Tryd.zeroValue0
  t2 := Tryd.underlying2
  a2 := Tryd.isAgg2
  z2 := Tryd.sizeOf2
  v2 := Tryd.zeroValue2
  t3 := Tryd.underlying3
  a3 := Tryd.isAgg3
  z3 := Tryd.sizeOf3
  v3 := Tryd.zeroValue3
  t4 := Tryd.underlying4
  a4 := Tryd.isAgg4
  z4 := Tryd.sizeOf4
  v4 := Tryd.zeroValue4
  t5 := Tryd.underlying5
  a5 := Tryd.isAgg5
  z5 := Tryd.sizeOf5
  v5 := Tryd.zeroValue5
  t9 := Tryd.underlying9
  a9 := Tryd.isAgg9
  z9 := Tryd.sizeOf9
  v9 := Tryd.zeroValue9
  t20 := Tryd.underlying20
  a20 := Tryd.isAgg20
  z20 := Tryd.sizeOf20
  v20 := Tryd.zeroValue20
  t21 := Tryd.underlying21
  a21 := Tryd.isAgg21
  z21 := Tryd.sizeOf21
  v21 := Tryd.zeroValue21
  t37 := Tryd.underlying22
  a37 := Tryd.isAgg22
  z37 := Tryd.sizeOf22
  v37 := Tryd.zeroValue22
  t46 := Tryd.underlying154
  a46 := Tryd.isAgg154
  z46 := Tryd.sizeOf154
  v46 := Tryd.zeroValue154
  t51 := Tryd.underlying182
  a51 := Tryd.isAgg182
  z51 := Tryd.sizeOf182
  v51 := Tryd.zeroValue182
  t53 := Tryd.underlying134
  a53 := Tryd.isAgg134
  z53 := Tryd.sizeOf134
  v53 := Tryd.zeroValue134
  t75 := Tryd.underlying138
  a75 := Tryd.isAgg138
  z75 := Tryd.sizeOf138
  v75 := Tryd.zeroValue138
  t85 := Tryd.underlying139
  a85 := Tryd.isAgg139
  z85 := Tryd.sizeOf139
  v85 := Tryd.zeroValue139
  t127 := Tryd.underlying194
  a127 := Tryd.isAgg194
  z127 := Tryd.sizeOf194
  v127 := Tryd.zeroValue194
  t143 := Tryd.underlying195
  a143 := Tryd.isAgg195
  z143 := Tryd.sizeOf195
  v143 := Tryd.zeroValue195
  t145 := Tryd.underlying197
  a145 := Tryd.isAgg197
  z145 := Tryd.sizeOf197
  v145 := Tryd.zeroValue197
  t167 := Tryd.underlying164
  a167 := Tryd.isAgg164
  z167 := Tryd.sizeOf164
  v167 := Tryd.zeroValue164
  t168 := Tryd.underlying167
  a168 := Tryd.isAgg167
  z168 := Tryd.sizeOf167
  v168 := Tryd.zeroValue167
  t171 := Tryd.underlying171
  a171 := Tryd.isAgg171
  z171 := Tryd.sizeOf171
  v171 := Tryd.zeroValue171
  t173 := Tryd.underlying174
  a173 := Tryd.isAgg174
  z173 := Tryd.sizeOf174
  v173 := Tryd.zeroValue174
  t175 := Tryd.underlying165
  a175 := Tryd.isAgg165
  z175 := Tryd.sizeOf165
  v175 := Tryd.zeroValue165
  t210 := Tryd.underlying187
  a210 := Tryd.isAgg187
  z210 := Tryd.sizeOf187
  v210 := Tryd.zeroValue187
  t212 := Tryd.underlying190
  a212 := Tryd.isAgg190
  z212 := Tryd.sizeOf190
  v212 := Tryd.zeroValue190
  t213 := Tryd.underlying191
  a213 := Tryd.isAgg191
  z213 := Tryd.sizeOf191
  t232 := Tryd.underlying199
  a232 := Tryd.isAgg199
  z232 := Tryd.sizeOf199
  v232 := Tryd.zeroValue199
  t233 := Tryd.underlying200
  a233 := Tryd.isAgg200
  z233 := Tryd.sizeOf200
  v233 := Tryd.zeroValue200
  g15 := by kernel_rfl
  g16 := by kernel_rfl
  g17 := by kernel_rfl
  g18 := by kernel_rfl
  g19 := by kernel_rfl
  t80 := Tryd.underlying201
  a80 := Tryd.isAgg201
  z80 := Tryd.sizeOf201
  v80 := Tryd.zeroValue201
  i0 := by kernel_rfl
  i2 := by kernel_rfl
  i3 := by kernel_rfl
  i4 := by kernel_rfl
  i5 := by kernel_rfl
  i9 := by kernel_rfl
  i20 := by kernel_rfl
  i21 := by kernel_rfl
  i37 := by kernel_rfl
  i46 := by kernel_rfl
  i51 := by kernel_rfl
  i53 := by kernel_rfl
  i75 := by kernel_rfl
  i80 := by kernel_rfl
  i85 := by kernel_rfl
  i127 := by kernel_rfl
  i143 := by kernel_rfl
  i145 := by kernel_rfl
  i167 := by kernel_rfl
  i168 := by kernel_rfl
  i171 := by kernel_rfl
  i173 := by kernel_rfl
  i175 := by kernel_rfl
  i210 := by kernel_rfl
  i212 := by kernel_rfl
  i232 := by kernel_rfl
  i233 := by kernel_rfl
  m15 := by kernel_rfl
  m16 := by kernel_rfl
  m17 := by kernel_rfl
  m18 := by kernel_rfl
  m19 := by kernel_rfl
  c0 := by kernel_rfl
  c2 := by kernel_rfl
  c3 := by kernel_rfl
  c4 := by kernel_rfl
  c5 := by kernel_rfl
  c9 := by kernel_rfl
  c20 := by kernel_rfl
  c21 := by kernel_rfl
  c37 := by kernel_rfl
  c46 := by kernel_rfl
  c51 := by kernel_rfl
  c53 := by kernel_rfl
  c75 := by kernel_rfl
  c80 := by kernel_rfl
  c85 := by kernel_rfl
  c127 := by kernel_rfl
  c143 := by kernel_rfl
  c145 := by kernel_rfl
  c167 := by kernel_rfl
  c168 := by kernel_rfl
  c171 := by kernel_rfl
  c173 := by kernel_rfl
  c175 := by kernel_rfl
  c210 := by kernel_rfl
  c212 := by kernel_rfl
  c213 := by kernel_rfl
  c232 := by kernel_rfl
  c233 := by kernel_rfl }

open Go.RowKit in
theorem sr_strconv_ParseInt_10_at64_ok (s : ByteArray) (hmax : s.size ≤ 9223372036854775806) (v : Int) (h : Lib.parseIntB 64 s.data.toList = .ok v) (w : World) :
    Calls Tryd.prog 119 #[.string s, .int .i64 10, .int .i64 64] w fun e w' => e = .returned (.tuple #[.int .i64 v, .nilIface]) ∧ (w' = w ∨ ∃ t, w' = Lib.bytesWorld w 5 t) := Any.strconv_ParseInt_10_at64_ok sr_laysC174 s hmax v h w

open Go.RowKit in
theorem sr_strconv_ParseInt_10_at64_syntax_var (s : ByteArray) (hlim : s.size ≤ 281474976710656) (h : Lib.parseIntB 64 s.data.toList = .«syntax») (tp : TypeId) (p : Value) (w : World) (hvar : w.var? Tryd.prog "strconv.ErrSyntax" = some #[.iface tp p]) :
    Calls Tryd.prog 119 #[.string s, .int .i64 10, .int .i64 64] w fun e w' => ∃ N, e = .returned (.tuple #[.int .i64 (0), .iface 167 (.pointer (some ⟨N, 0, none⟩))]) ∧ w.heap.size ≤ N ∧ w'.heap[N]? = some (.cells #[.string ⟨#[80, 97, 114, 115, 101, 73, 110, 116]⟩, .string s, .iface tp p] 187 (0, 0)) ∧ Below w.heap.size w w' := Any.strconv_ParseInt_10_at64_syntax_var sr_laysC174 s hlim h tp p w hvar

open Go.RowKit in
theorem sr_strconv_ParseInt_10_at64_range_var (s : ByteArray) (hlim : s.size ≤ 281474976710656) (h : Lib.parseIntB 64 s.data.toList = .range) (tp : TypeId) (p : Value) (w : World) (hvar : w.var? Tryd.prog "strconv.ErrRange" = some #[.iface tp p]) :
    Calls Tryd.prog 119 #[.string s, .int .i64 10, .int .i64 64] w fun e w' => ∃ N, e = .returned (.tuple #[.int .i64 (Lib.intSat 64 s.data.toList), .iface 167 (.pointer (some ⟨N, 0, none⟩))]) ∧ w.heap.size ≤ N ∧ w'.heap[N]? = some (.cells #[.string ⟨#[80, 97, 114, 115, 101, 73, 110, 116]⟩, .string s, .iface tp p] 187 (0, 0)) ∧ Below w.heap.size w w' := Any.strconv_ParseInt_10_at64_range_var sr_laysC174 s hlim h tp p w hvar

def sr_lays145_ren : Go.Shelf.Ren := ⟨fun | 145 => 72 | 220 => 117 | 219 => 138 | 217 => 153 | 225 => 154 | 224 => 155 | 267 => 156 | 266 => 171 | 314 => 172 | n => n, fun | 9 => 9 | 4 => 4 | 59 => 101 | 3 => 3 | 5 => 5 | 46 => 154 | 146 => 183 | 51 => 182 | n => n, fun | 1 => 0 | n => n⟩

theorem sr_lays145 : Go.Proofs.Lays.n145 Tryd.prog sr_lays145_ren := {
  mixed := by kernel_rfl
  f145 := Tryd.func72.trans (congrArg some (by kernel_rfl))
  f217 := Tryd.func153.trans (congrArg some (by kernel_rfl))
  f219 := Tryd.func138.trans (congrArg some (by kernel_rfl))
  f220 := Tryd.func117.trans (congrArg some (by kernel_rfl))
  f224 := Tryd.func155.trans (congrArg some (by kernel_rfl))
  f225 := Tryd.func154.trans (congrArg some (by kernel_rfl))
  f266 := Tryd.func171.trans (congrArg some (by kernel_rfl))
  f267 := Tryd.func156.trans (congrArg some (by kernel_rfl))
  f314 := Tryd.func172.trans (congrArg some (by kernel_rfl))
  t3 := Tryd.underlying3
  a3 := Tryd.isAgg3
  z3 := Tryd.sizeOf3
  v3 := Tryd.zeroValue3
  t4 := Tryd.underlying4
  a4 := Tryd.isAgg4
  z4 := Tryd.sizeOf4
  v4 := Tryd.zeroValue4
  t5 := Tryd.underlying5
  a5 := Tryd.isAgg5
  z5 := Tryd.sizeOf5
  v5 := Tryd.zeroValue5
  t9 := Tryd.underlying9
  a9 := Tryd.isAgg9
  z9 := Tryd.sizeOf9
  v9 := Tryd.zeroValue9
  t46 := Tryd.underlying154
  a46 := Tryd.isAgg154
  z46 := Tryd.sizeOf154
  v46 := Tryd.zeroValue154
  t51 := Tryd.underlying182
  a51 := Tryd.isAgg182
  z51 := Tryd.sizeOf182
  v51 := Tryd.zeroValue182
  t59 := Tryd.underlying101
  a59 := Tryd.isAgg101
  z59 := Tryd.sizeOf101
  v59 := Tryd.zeroValue101
  t146 := Tryd.underlying183
  a146 := Tryd.isAgg183
  z146 := Tryd.sizeOf183
  v146 := Tryd.zeroValue183
  g1 := by kernel_rfl }

open Go.RowKit Go.Lib in
theorem sr_strings_Cut (s sep : ByteArray) (m : Int) (w : World) (hs : s.size < 4294967281) (hm : w.cell? ⟨0, 0, none⟩ = some (.int .i64 m)) :
    Calls Tryd.prog 72 #[.string s, .string sep] w fun e w' => e = .returned (.tuple #[.string ⟨(Lib.cut s.data.toList sep.data.toList).1.toArray⟩, .string ⟨(Lib.cut s.data.toList sep.data.toList).2.1.toArray⟩, .bool (Lib.cut s.data.toList sep.data.toList).2.2]) ∧ ∃ n, w' = w.drewN n := Any.strings_Cut sr_lays145 s sep m w hs hm

def sr_lays101_ren : Go.Shelf.Ren := ⟨fun | 101 => 118 | 208 => 139 | 206 => 106 | n => n, fun | 9 => 9 | 4 => 4 | 3 => 3 | n => n, fun | n => n⟩

theorem sr_lays101 : Go.Proofs.Lays.n101 Tryd.prog sr_lays101_ren := {
  mixed := by kernel_rfl
  f101 := Tryd.func118.trans (congrArg some (by kernel_rfl))
  f206 := Tryd.func106.trans (congrArg some (by kernel_rfl))
  f208 := Tryd.func139.trans (congrArg some (by kernel_rfl))
  t3 := Tryd.underlying3
  a3 := Tryd.isAgg3
  z3 := Tryd.sizeOf3
  v3 := Tryd.zeroValue3
  t4 := Tryd.underlying4
  a4 := Tryd.isAgg4
  z4 := Tryd.sizeOf4
  v4 := Tryd.zeroValue4
  t9 := Tryd.underlying9
  a9 := Tryd.isAgg9
  z9 := Tryd.sizeOf9
  v9 := Tryd.zeroValue9 }

open Go.RowKit Go.Lib in
theorem sr_strings_TrimPrefix (s p : ByteArray) (w : World) :
    Calls Tryd.prog 118 #[.string s, .string p] w fun e w' => e = .returned (.string ⟨(Lib.trimPrefix s.data.toList p.data.toList).toArray⟩) ∧ w' = w := Any.strings_TrimPrefix sr_lays101 s p w

def sr_lays146_ren : Go.Shelf.Ren := ⟨fun | 146 => 107 | 221 => 135 | 268 => 151 | 138 => 152 | 143 => 136 | 195 => 169 | 197 => 132 | 218 => 170 | 219 => 138 | 260 => 148 | 217 => 153 | 225 => 154 | 224 => 155 | 267 => 156 | 266 => 171 | 314 => 172 | n => n, fun | 9 => 9 | 31 => 111 | 3 => 3 | 4 => 4 | 0 => 0 | 105 => 149 | 21 => 21 | 5 => 5 | 46 => 154 | 119 => 176 | 139 => 179 | 138 => 178 | 146 => 183 | 51 => 182 | n => n, fun | 1 => 0 | 3 => 1 | 4 => 2 | n => n⟩

theorem sr_lays146 : Go.Proofs.Lays.n146 Tryd.prog sr_lays146_ren := {
  mixed := by kernel_rfl
  f138 := Tryd.func152.trans (congrArg some (by kernel_rfl))
  f143 := Tryd.func136.trans (congrArg some (by kernel_rfl))
  f146 := Tryd.func107.trans (congrArg some (by kernel_rfl))
  f195 := Tryd.func169.trans (congrArg some (by kernel_rfl))
  f197 := Tryd.func132.trans (congrArg some (by kernel_rfl))
  f217 := Tryd.func153.trans (congrArg some (by kernel_rfl))
  f218 := Tryd.func170.trans (congrArg some (by kernel_rfl))
  f219 := Tryd.func138.trans (congrArg some (by kernel_rfl))
  f221 := Tryd.func135.trans (congrArg some (by kernel_rfl))
  f224 := Tryd.func155.trans (congrArg some (by kernel_rfl))
  f225 := Tryd.func154.trans (congrArg some (by kernel_rfl))
  f260 := Tryd.func148.trans (congrArg some (by kernel_rfl))
  f266 := Tryd.func171.trans (congrArg some (by kernel_rfl))
  f267 := Tryd.func156.trans (congrArg some (by kernel_rfl))
  f268 := Tryd.func151.trans (congrArg some (by kernel_rfl))
  f314 := Tryd.func172.trans (congrArg some (by kernel_rfl))
  t0 := Tryd.underlying0
  a0 := Tryd.isAgg0
  z0 := Tryd.sizeOf0
  v0 := Tryd.zeroValue0
  t3 := Tryd.underlying3
  a3 := Tryd.isAgg3
  z3 := Tryd.sizeOf3
  v3 := Tryd.zeroValue3
  t4 := Tryd.underlying4
  a4 := Tryd.isAgg4
  z4 := Tryd.sizeOf4
  v4 := Tryd.zeroValue4
  t5 := Tryd.underlying5
  a5 := Tryd.isAgg5
  z5 := Tryd.sizeOf5
  v5 := Tryd.zeroValue5
  t9 := Tryd.underlying9
  a9 := Tryd.isAgg9
  z9 := Tryd.sizeOf9
  v9 := Tryd.zeroValue9
  t21 := Tryd.underlying21
  a21 := Tryd.isAgg21
  z21 := Tryd.sizeOf21
  v21 := Tryd.zeroValue21
  t31 := Tryd.underlying111
  a31 := Tryd.isAgg111
  z31 := Tryd.sizeOf111
  v31 := Tryd.zeroValue111
  t46 := Tryd.underlying154
  a46 := Tryd.isAgg154
  z46 := Tryd.sizeOf154
  v46 := Tryd.zeroValue154
  t51 := Tryd.underlying182
  a51 := Tryd.isAgg182
  z51 := Tryd.sizeOf182
  v51 := Tryd.zeroValue182
  t105 := Tryd.underlying149
  a105 := Tryd.isAgg149
  z105 := Tryd.sizeOf149
  v105 := Tryd.zeroValue149
  t119 := Tryd.underlying176
  a119 := Tryd.isAgg176
  z119 := Tryd.sizeOf176
  t138 := Tryd.underlying178
  a138 := Tryd.isAgg178
  z138 := Tryd.sizeOf178
  v138 := Tryd.zeroValue178
  t139 := Tryd.underlying179
  a139 := Tryd.isAgg179
  z139 := Tryd.sizeOf179
  v139 := Tryd.zeroValue179
  t146 := Tryd.underlying183
  a146 := Tryd.isAgg183
  z146 := Tryd.sizeOf183
  v146 := Tryd.zeroValue183
  g1 := by kernel_rfl
  g3 := by kernel_rfl
  g4 := by kernel_rfl }

open Go.RowKit Go.Lib in
theorem sr_strings_Split (s sep : ByteArray) (m : Int) (w : World) (hs : s.size < 4294967281) (hm : w.cell? ⟨0, 0, none⟩ = some (.int .i64 m)) (h1 : 1 ≤ sep.size) :
    Calls Tryd.prog 107 #[.string s, .string sep] w fun e w' =>
      e = .returned (.slice (some ⟨w.heap.size, 0, none⟩) (Lib.countB s sep + 1) (Lib.countB s sep + 1)) ∧ w' = w.alloc (.cells ((Lib.splitB sep 0 (Lib.countB s sep) s).map Value.string).toArray 9) := Any.strings_Split sr_lays146 (by kernel_rfl) s sep m w hs hm h1
end Go.Proofs.YtbikppndhidbpaaDoor
