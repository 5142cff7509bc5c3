/- The library's contracts at this program (laid by the kit's own command). No condition. -/
import Derived.Shelf.Strings.Builder1
import Derived.Shelf.Strings.Builder2
import Derived.Shelf.Strings.OnBuilder
import Derived.Shelf.Strings.BuilderF
import Derived.Shelf.Strings.BuilderK
import Derived.Shelf.Utf8.RuneCount
import Derived.Shelf.Strings.Builder2Cap
import Derived.Shelf.Strconv.Atoi
import Derived.Shelf.Strconv.Itoa0
import Derived.Shelf.Strconv.Itoa1
import Derived.Shelf.LaysM
import Derived.Shelf.Strconv.Itoa2
import Derived.Shelf.Strconv.Itoa3
import Derived.Shelf.Strconv.AtoiErrFast
import Derived.Shelf.Strconv.ParseIntEmpty
import Derived.Shelf.Strconv.AtoiFail
import Derived.Shelf.Strconv.Clone
import Derived.Shelf.Strconv.SyntaxError
import Derived.Shelf.LaysC
import Derived.Shelf.Strconv.ToError
import Derived.Shelf.Strconv.Lower
import Derived.Shelf.Strconv.ParseUint10
import Derived.Shelf.Strconv.ParseUint10Empty
import Derived.Shelf.Strconv.ParseUint10Any
import Derived.Shelf.Strconv.ParseInt10
import Derived.Shelf.Strconv.AtoiLong
import Derived.Shelf.Strconv.AtoiInnerAll
import Derived.Shelf.Strconv.RangeError
import Derived.Shelf.Strconv.ToErrorRange
import Derived.Shelf.Strconv.AtoiAll
import Derived.Shelf.Strings.Search1
import Derived.Shelf.Strings.Search2
import Derived.Shelf.Strings.Search3
import Derived.Shelf.Strings.Count
import Derived.Shelf.Strings.Shaped
import Derived.Shelf.Strings.Split
import Derived.Shelf.Strings.Replace
import Derived.Shelf.Strings.SplitShaped
import Derived.Shelf.Unicode.Decode
import Derived.Shelf.Strings.RuneCount
import Derived.Shelf.Strings.Explode
import Derived.Shelf.Unicode.DecodeSlow
import Derived.Shelf.Unicode.DecodeAny
import Derived.Shelf.Slices.Turned
import Derived.Shelf.Slices.Equal
import Derived.Ground.Names2Prog
import Derived.Shelf.Slices.SearchI
import Derived.Shelf.Slices.Empties2
import Derived.Test.YtbbefmccoomfhaaGreatDoorProg
namespace Go.Proofs
open Go.Shelf Tryz
theorem Tryz.fq {α : Type} {x : Option α} {a b : α} (h : x = some a) (e : a = b) : x = some b := h.trans (congrArg some e)
def Tryz.lays156_ren : Go.Shelf.Ren := ⟨fun | 156 => 241 | 165 => 261 | 166 => 262 | 169 => 263 | 240 => 297 | 241 => 298 | 276 => 321 | 277 => 322 | n => n, fun | 31 => 34 | 9 => 9 | 3 => 3 | 4 => 4 | 0 => 0 | 20 => 20 | 72 => 251 | 76 => 185 | 70 => 249 | 37 => 22 | 75 => 184 | 127 => 279 | 164 => 307 | 5 => 5 | 80 => 253 | n => n, fun | n => n⟩
theorem Tryz.lays156 : Go.Proofs.Lays.n156 Tryz.prog Tryz.lays156_ren := {
 mixed := by kernel_rfl
 f156 := fq func241 (by kernel_rfl)
 f165 := fq func261 (by kernel_rfl)
 f166 := fq func262 (by kernel_rfl)
 f169 := fq func263 (by kernel_rfl)
 f240 := fq func297 (by kernel_rfl)
 f241 := fq func298 (by kernel_rfl)
 f276 := fq func321 (by kernel_rfl)
 f277 := fq func322 (by kernel_rfl)
 t0 := underlying0
 a0 := isAgg0
 z0 := sizeOf0
 v0 := zeroValue0
 t3 := underlying3
 a3 := isAgg3
 z3 := sizeOf3
 v3 := zeroValue3
 t4 := underlying4
 a4 := isAgg4
 z4 := sizeOf4
 v4 := zeroValue4
 t9 := underlying9
 a9 := isAgg9
 z9 := sizeOf9
 v9 := zeroValue9
 t20 := underlying20
 a20 := isAgg20
 z20 := sizeOf20
 v20 := zeroValue20
 t31 := underlying34
 a31 := isAgg34
 z31 := sizeOf34
 v31 := zeroValue34
 t37 := underlying22
 a37 := isAgg22
 z37 := sizeOf22
 v37 := zeroValue22
 t70 := underlying249
 a70 := isAgg249
 z70 := sizeOf249
 v70 := zeroValue249
 t72 := underlying251
 a72 := isAgg251
 z72 := sizeOf251
 v72 := zeroValue251
 t75 := underlying184
 a75 := isAgg184
 z75 := sizeOf184
 v75 := zeroValue184
 t76 := underlying185
 a76 := isAgg185
 z76 := sizeOf185
 v76 := zeroValue185
 t127 := underlying279
 a127 := isAgg279
 z127 := sizeOf279
 v127 := zeroValue279
 t164 := underlying307
 a164 := isAgg307
 z164 := sizeOf307
 v164 := zeroValue307 }
theorem Tryz.Builder_Extra_156 : Builder.Extra Tryz.prog Tryz.lays156_ren := {
 sizeBuilder := by kernel_rfl
 liesBuilder := by kernel_rfl
 t5 := underlying5
 a5 := isAgg5
 z5 := sizeOf5
 v5 := zeroValue5
 infoByte := by kernel_rfl
 cellsByte := by kernel_rfl
 sizeByte := by kernel_rfl
 neB5 := by decide }
open Go.RowKit in
theorem Tryz.strings_Join_none (a : Option Addr) (c : Nat) (sep : ByteArray) (w : World) :
    Calls Tryz.prog 241 #[.slice a 0 c, .string sep] w fun e w' => e = .returned (.string ⟨#[]⟩) ∧ w' = w := Any.strings_Join_none Tryz.lays156 Tryz.Builder_Extra_156 a c sep w
open Go.RowKit in
theorem Tryz.strings_Join (bk o c : Nat) (xs : List ByteArray) (sep : ByteArray) (w : World) (hcells : ∀ (j : Nat) x, xs[j]? = some x → w.cell? ⟨bk, o + j, none⟩ = some (.string x)) (hbk : bk < w.heap.size) (hN : xs.length ≤ 140737488355328) (hcap : xs.length ≤ c) (hlen : (Lib.join (xs.map (·.data.toList)) sep.data.toList).length ≤ 140737488355328) :
    Calls Tryz.prog 241 #[.slice (some ⟨bk, o, none⟩) xs.length c, .string sep] w fun e w' => e = .returned (.string ⟨(Lib.join (xs.map (·.data.toList)) sep.data.toList).toArray⟩) ∧ Below w.heap.size w w' := Any.strings_Join Tryz.lays156 Tryz.Builder_Extra_156 bk o c xs sep w hcells hbk hN hcap hlen
def Tryz.laysM171_ren : Go.Shelf.Ren := ⟨fun | 171 => 106 | 243 => 180 | 246 => 242 | 283 => 281 | 284 => 282 | 285 => 283 | 286 => 284 | 129 => 310 | 317 => 309 | 318 => 311 | 319 => 312 | 320 => 313 | 337 => 328 | 338 => 329 | n => n, fun | 3 => 3 | 9 => 9 | 2 => 2 | 4 => 4 | 171 => 267 | 0 => 0 | 53 => 268 | 37 => 22 | 5 => 5 | 173 => 271 | 212 => 289 | 51 => 290 | 20 => 20 | 213 => 291 | 46 => 171 | 232 => 320 | 233 => 321 | n => n, fun | 17 => 3 | 18 => 6 | 19 => 7 | n => n⟩
theorem Tryz.laysM171 : Go.Proofs.LaysM.n171 Tryz.prog Tryz.laysM171_ren := {
 mixed := by kernel_rfl
 f129 := fq func310 (by kernel_rfl)
 f171 := fq func106 (by kernel_rfl)
 f243 := fq func180 (by kernel_rfl)
 f246 := fq func242 (by kernel_rfl)
 f283 := fq func281 (by kernel_rfl)
 f284 := fq func282 (by kernel_rfl)
 f285 := fq func283 (by kernel_rfl)
 f286 := fq func284 (by kernel_rfl)
 f317 := fq func309 (by kernel_rfl)
 f318 := fq func311 (by kernel_rfl)
 f319 := fq func312 (by kernel_rfl)
 f320 := fq func313 (by kernel_rfl)
 f337 := fq func328 (by kernel_rfl)
 f338 := fq func329 (by kernel_rfl)
 t0 := underlying0
 a0 := isAgg0
 z0 := sizeOf0
 v0 := zeroValue0
 t2 := underlying2
 a2 := isAgg2
 z2 := sizeOf2
 v2 := zeroValue2
 t3 := underlying3
 a3 := isAgg3
 z3 := sizeOf3
 v3 := zeroValue3
 t4 := underlying4
 a4 := isAgg4
 z4 := sizeOf4
 v4 := zeroValue4
 t5 := underlying5
 a5 := isAgg5
 z5 := sizeOf5
 v5 := zeroValue5
 t9 := underlying9
 a9 := isAgg9
 z9 := sizeOf9
 v9 := zeroValue9
 t20 := underlying20
 a20 := isAgg20
 z20 := sizeOf20
 v20 := zeroValue20
 t37 := underlying22
 a37 := isAgg22
 z37 := sizeOf22
 v37 := zeroValue22
 t46 := underlying171
 a46 := isAgg171
 z46 := sizeOf171
 v46 := zeroValue171
 t51 := underlying290
 a51 := isAgg290
 z51 := sizeOf290
 v51 := zeroValue290
 t53 := underlying268
 a53 := isAgg268
 z53 := sizeOf268
 v53 := zeroValue268
 t171 := underlying267
 a171 := isAgg267
 z171 := sizeOf267
 v171 := zeroValue267
 t173 := underlying271
 a173 := isAgg271
 z173 := sizeOf271
 v173 := zeroValue271
 t212 := underlying289
 a212 := isAgg289
 z212 := sizeOf289
 v212 := zeroValue289
 t213 := underlying291
 a213 := isAgg291
 z213 := sizeOf291
 t232 := underlying320
 a232 := isAgg320
 z232 := sizeOf320
 v232 := zeroValue320
 t233 := underlying321
 a233 := isAgg321
 z233 := sizeOf321
 v233 := zeroValue321
 g17 := by kernel_rfl
 g18 := by kernel_rfl
 g19 := by kernel_rfl
 i0 := by kernel_rfl
 i2 := by kernel_rfl
 i3 := by kernel_rfl
 i4 := by kernel_rfl
 i5 := by kernel_rfl
 i9 := by kernel_rfl
 i20 := by kernel_rfl
 i37 := by kernel_rfl
 i46 := by kernel_rfl
 i51 := by kernel_rfl
 i53 := by kernel_rfl
 i171 := by kernel_rfl
 i173 := by kernel_rfl
 i212 := by kernel_rfl
 i232 := by kernel_rfl
 i233 := by kernel_rfl
 m17 := by kernel_rfl
 m18 := by kernel_rfl
 m19 := by kernel_rfl }
open Go.RowKit Go.Sort Go.Lib in
theorem Tryz.strconv_Itoa (n : Int) (h0 : -9223372036854775808 ≤ n) (h1 : n ≤ 9223372036854775807) (w : World) (htab : Lib.TabIs Tryz.prog w "internal/strconv.uint64pow10" .u64 Lib.pow10Tab) :
    Calls Tryz.prog 106 #[.int .i64 n] w fun e w' => e = .returned (.string ⟨(Lib.itoa n).toArray⟩) ∧ ∃ k os, w' = grow (w.drewN k) os := Any.strconv_Itoa Tryz.laysM171 n h0 h1 w htab
def Tryz.laysC172_ren : Go.Shelf.Ren := ⟨fun | 172 => 149 | 244 => 218 | 245 => 219 | 247 => 264 | 279 => 265 | 280 => 266 | 281 => 267 | 282 => 268 | 287 => 299 | 316 => 300 | 171 => 106 | 205 => 301 | 321 => 323 | 322 => 324 | 243 => 180 | 246 => 242 | 283 => 281 | 284 => 282 | 285 => 283 | 286 => 284 | 129 => 310 | 317 => 309 | 318 => 311 | 319 => 312 | 320 => 313 | 337 => 328 | 338 => 329 | n => n, fun | 9 => 9 | 3 => 3 | 75 => 184 | 76 => 185 | 4 => 4 | 5 => 5 | 167 => 254 | 37 => 22 | 0 => 0 | 85 => 255 | 2 => 2 | 168 => 257 | 53 => 268 | 175 => 280 | 46 => 171 | 210 => 284 | 127 => 279 | 145 => 313 | 143 => 311 | 21 => 21 | 171 => 267 | 173 => 271 | 212 => 289 | 51 => 290 | 20 => 20 | 213 => 291 | 232 => 320 | 233 => 321 | 80 => 253 | n => n, fun | 15 => 1 | 16 => 2 | 17 => 3 | 18 => 6 | 19 => 7 | n => n⟩
theorem Tryz.laysC172 : Go.Proofs.LaysC.n172 Tryz.prog Tryz.laysC172_ren := {
 mixed := by kernel_rfl
 f129 := fq func310 (by kernel_rfl)
 f171 := fq func106 (by kernel_rfl)
 f172 := fq func149 (by kernel_rfl)
 f205 := fq func301 (by kernel_rfl)
 f243 := fq func180 (by kernel_rfl)
 f244 := fq func218 (by kernel_rfl)
 f245 := fq func219 (by kernel_rfl)
 f246 := fq func242 (by kernel_rfl)
 f247 := fq func264 (by kernel_rfl)
 f279 := fq func265 (by kernel_rfl)
 f280 := fq func266 (by kernel_rfl)
 f281 := fq func267 (by kernel_rfl)
 f282 := fq func268 (by kernel_rfl)
 f283 := fq func281 (by kernel_rfl)
 f284 := fq func282 (by kernel_rfl)
 f285 := fq func283 (by kernel_rfl)
 f286 := fq func284 (by kernel_rfl)
 f287 := fq func299 (by kernel_rfl)
 f316 := fq func300 (by kernel_rfl)
 f317 := fq func309 (by kernel_rfl)
 f318 := fq func311 (by kernel_rfl)
 f319 := fq func312 (by kernel_rfl)
 f320 := fq func313 (by kernel_rfl)
 f321 := fq func323 (by kernel_rfl)
 f322 := fq func324 (by kernel_rfl)
 f337 := fq func328 (by kernel_rfl)
 f338 := fq func329 (by kernel_rfl)
 t0 := underlying0
 a0 := isAgg0
 z0 := sizeOf0
 v0 := zeroValue0
 t2 := underlying2
 a2 := isAgg2
 z2 := sizeOf2
 v2 := zeroValue2
 t3 := underlying3
 a3 := isAgg3
 z3 := sizeOf3
 v3 := zeroValue3
 t4 := underlying4
 a4 := isAgg4
 z4 := sizeOf4
 v4 := zeroValue4
 t5 := underlying5
 a5 := isAgg5
 z5 := sizeOf5
 v5 := zeroValue5
 t9 := underlying9
 a9 := isAgg9
 z9 := sizeOf9
 v9 := zeroValue9
 t20 := underlying20
 a20 := isAgg20
 z20 := sizeOf20
 v20 := zeroValue20
 t21 := underlying21
 a21 := isAgg21
 z21 := sizeOf21
 v21 := zeroValue21
 t37 := underlying22
 a37 := isAgg22
 z37 := sizeOf22
 v37 := zeroValue22
 t46 := underlying171
 a46 := isAgg171
 z46 := sizeOf171
 v46 := zeroValue171
 t51 := underlying290
 a51 := isAgg290
 z51 := sizeOf290
 v51 := zeroValue290
 t53 := underlying268
 a53 := isAgg268
 z53 := sizeOf268
 v53 := zeroValue268
 t75 := underlying184
 a75 := isAgg184
 z75 := sizeOf184
 v75 := zeroValue184
 t76 := underlying185
 a76 := isAgg185
 z76 := sizeOf185
 v76 := zeroValue185
 t85 := underlying255
 a85 := isAgg255
 z85 := sizeOf255
 v85 := zeroValue255
 t127 := underlying279
 a127 := isAgg279
 z127 := sizeOf279
 v127 := zeroValue279
 t143 := underlying311
 a143 := isAgg311
 z143 := sizeOf311
 v143 := zeroValue311
 t145 := underlying313
 a145 := isAgg313
 z145 := sizeOf313
 v145 := zeroValue313
 t167 := underlying254
 a167 := isAgg254
 z167 := sizeOf254
 v167 := zeroValue254
 t168 := underlying257
 a168 := isAgg257
 z168 := sizeOf257
 v168 := zeroValue257
 t171 := underlying267
 a171 := isAgg267
 z171 := sizeOf267
 v171 := zeroValue267
 t173 := underlying271
 a173 := isAgg271
 z173 := sizeOf271
 v173 := zeroValue271
 t175 := underlying280
 a175 := isAgg280
 z175 := sizeOf280
 v175 := zeroValue280
 t210 := underlying284
 a210 := isAgg284
 z210 := sizeOf284
 v210 := zeroValue284
 t212 := underlying289
 a212 := isAgg289
 z212 := sizeOf289
 v212 := zeroValue289
 t213 := underlying291
 a213 := isAgg291
 z213 := sizeOf291
 t232 := underlying320
 a232 := isAgg320
 z232 := sizeOf320
 v232 := zeroValue320
 t233 := underlying321
 a233 := isAgg321
 z233 := sizeOf321
 v233 := zeroValue321
 g15 := by kernel_rfl
 g16 := by kernel_rfl
 g17 := by kernel_rfl
 g18 := by kernel_rfl
 g19 := by kernel_rfl
 t80 := underlying253
 a80 := isAgg253
 z80 := sizeOf253
 v80 := zeroValue253
 i0 := by kernel_rfl
 i2 := by kernel_rfl
 i3 := by kernel_rfl
 i4 := by kernel_rfl
 i5 := by kernel_rfl
 i9 := by kernel_rfl
 i20 := by kernel_rfl
 i21 := by kernel_rfl
 i37 := by kernel_rfl
 i46 := by kernel_rfl
 i51 := by kernel_rfl
 i53 := by kernel_rfl
 i75 := by kernel_rfl
 i76 := by kernel_rfl
 i80 := by kernel_rfl
 i85 := by kernel_rfl
 i127 := by kernel_rfl
 i143 := by kernel_rfl
 i145 := by kernel_rfl
 i167 := by kernel_rfl
 i168 := by kernel_rfl
 i171 := by kernel_rfl
 i173 := by kernel_rfl
 i175 := by kernel_rfl
 i210 := by kernel_rfl
 i212 := by kernel_rfl
 i232 := by kernel_rfl
 i233 := by kernel_rfl
 m15 := by kernel_rfl
 m16 := by kernel_rfl
 m17 := by kernel_rfl
 m18 := by kernel_rfl
 m19 := by kernel_rfl
 c0 := by kernel_rfl
 c2 := by kernel_rfl
 c3 := by kernel_rfl
 c4 := by kernel_rfl
 c5 := by kernel_rfl
 c9 := by kernel_rfl
 c20 := by kernel_rfl
 c21 := by kernel_rfl
 c37 := by kernel_rfl
 c46 := by kernel_rfl
 c51 := by kernel_rfl
 c53 := by kernel_rfl
 c75 := by kernel_rfl
 c76 := by kernel_rfl
 c80 := by kernel_rfl
 c85 := by kernel_rfl
 c127 := by kernel_rfl
 c143 := by kernel_rfl
 c145 := by kernel_rfl
 c167 := by kernel_rfl
 c168 := by kernel_rfl
 c171 := by kernel_rfl
 c173 := by kernel_rfl
 c175 := by kernel_rfl
 c210 := by kernel_rfl
 c212 := by kernel_rfl
 c213 := by kernel_rfl
 c232 := by kernel_rfl
 c233 := by kernel_rfl }
open Go.RowKit in
theorem Tryz.strconv_Atoi_ok (s : ByteArray) (hmax : s.size ≤ 9223372036854775806) (v : Int) (h : Lib.atoiAll s.data.toList = .ok v) (w : World) :
    Calls Tryz.prog 149 #[.string s] w fun e w' => e = .returned (.tuple #[.int .i64 v, .nilIface]) ∧ (w' = w ∨ ∃ t, w' = Lib.bytesWorld w 5 t) := Any.strconv_Atoi_ok Tryz.laysC172 s hmax v h w
open Go.RowKit in
theorem Tryz.strconv_Atoi_syntax (s : ByteArray) (hlim : s.size ≤ 281474976710656) (h : (match Lib.atoiAll s.data.toList with | .ok _ => false | .range => false | _ => true) = true) (ev : Value) (w : World) (hv : w.cell? ⟨1, 0, none⟩ = some ev) (hev : ev = .nilIface ∨ ∃ te pe, ev = .iface te pe) :
    Calls Tryz.prog 149 #[.string s] w fun e w' => ∃ N, e = .returned (.tuple #[.int .i64 (0), .iface 257 (.pointer (some ⟨N, 0, none⟩))]) ∧ w.heap.size ≤ N ∧ w'.heap[N]? = some (.cells #[.string ⟨#[65, 116, 111, 105]⟩, .string s, ev] 284 (0, 0)) ∧ Below w.heap.size w w' := by
 cases e : Lib.atoiAll s.data.toList with
 | ok v => rw [e] at h; cases h
 | range => rw [e] at h; cases h
 | _ => exact Any.strconv_Atoi_syntax Tryz.laysC172 s hlim e ev w hv hev
open Go.RowKit in
theorem Tryz.strconv_Atoi_range (s : ByteArray) (hlim : s.size ≤ 281474976710656) (h : Lib.atoiAll s.data.toList = .range) (ev : Value) (w : World) (hv : w.cell? ⟨2, 0, none⟩ = some ev) (hev : ev = .nilIface ∨ ∃ te pe, ev = .iface te pe) :
    Calls Tryz.prog 149 #[.string s] w fun e w' => ∃ N, e = .returned (.tuple #[.int .i64 (Lib.atoiSat s.data.toList), .iface 257 (.pointer (some ⟨N, 0, none⟩))]) ∧ w.heap.size ≤ N ∧ w'.heap[N]? = some (.cells #[.string ⟨#[65, 116, 111, 105]⟩, .string s, ev] 284 (0, 0)) ∧ Below w.heap.size w w' := Any.strconv_Atoi_range Tryz.laysC172 s hlim h ev w hv hev
def Tryz.lays146_ren : Go.Shelf.Ren := ⟨fun | 146 => 68 | 221 => 144 | 268 => 212 | 138 => 213 | 143 => 214 | 195 => 256 | 197 => 257 | 218 => 258 | 219 => 259 | 260 => 291 | 217 => 292 | 225 => 293 | 224 => 294 | 267 => 295 | 266 => 319 | 314 => 320 | n => n, fun | 9 => 9 | 31 => 34 | 3 => 3 | 4 => 4 | 0 => 0 | 105 => 246 | 21 => 21 | 5 => 5 | 46 => 171 | 119 => 301 | 139 => 304 | 138 => 303 | 146 => 305 | 51 => 290 | n => n, fun | 1 => 0 | 3 => 4 | 4 => 5 | n => n⟩
theorem Tryz.lays146 : Go.Proofs.Lays.n146 Tryz.prog Tryz.lays146_ren := {
 mixed := by kernel_rfl
 f138 := fq func213 (by kernel_rfl)
 f143 := fq func214 (by kernel_rfl)
 f146 := fq func68 (by kernel_rfl)
 f195 := fq func256 (by kernel_rfl)
 f197 := fq func257 (by kernel_rfl)
 f217 := fq func292 (by kernel_rfl)
 f218 := fq func258 (by kernel_rfl)
 f219 := fq func259 (by kernel_rfl)
 f221 := fq func144 (by kernel_rfl)
 f224 := fq func294 (by kernel_rfl)
 f225 := fq func293 (by kernel_rfl)
 f260 := fq func291 (by kernel_rfl)
 f266 := fq func319 (by kernel_rfl)
 f267 := fq func295 (by kernel_rfl)
 f268 := fq func212 (by kernel_rfl)
 f314 := fq func320 (by kernel_rfl)
 t0 := underlying0
 a0 := isAgg0
 z0 := sizeOf0
 v0 := zeroValue0
 t3 := underlying3
 a3 := isAgg3
 z3 := sizeOf3
 v3 := zeroValue3
 t4 := underlying4
 a4 := isAgg4
 z4 := sizeOf4
 v4 := zeroValue4
 t5 := underlying5
 a5 := isAgg5
 z5 := sizeOf5
 v5 := zeroValue5
 t9 := underlying9
 a9 := isAgg9
 z9 := sizeOf9
 v9 := zeroValue9
 t21 := underlying21
 a21 := isAgg21
 z21 := sizeOf21
 v21 := zeroValue21
 t31 := underlying34
 a31 := isAgg34
 z31 := sizeOf34
 v31 := zeroValue34
 t46 := underlying171
 a46 := isAgg171
 z46 := sizeOf171
 v46 := zeroValue171
 t51 := underlying290
 a51 := isAgg290
 z51 := sizeOf290
 v51 := zeroValue290
 t105 := underlying246
 a105 := isAgg246
 z105 := sizeOf246
 v105 := zeroValue246
 t119 := underlying301
 a119 := isAgg301
 z119 := sizeOf301
 t138 := underlying303
 a138 := isAgg303
 z138 := sizeOf303
 v138 := zeroValue303
 t139 := underlying304
 a139 := isAgg304
 z139 := sizeOf304
 v139 := zeroValue304
 t146 := underlying305
 a146 := isAgg305
 z146 := sizeOf305
 v146 := zeroValue305
 g1 := by kernel_rfl
 g3 := by kernel_rfl
 g4 := by kernel_rfl }
open Go.RowKit Go.Lib in
theorem Tryz.strings_Split (s sep : ByteArray) (m : Int) (w : World) (hs : s.size < 4294967281) (hm : w.cell? ⟨0, 0, none⟩ = some (.int .i64 m)) (h1 : 1 ≤ sep.size) :
    Calls Tryz.prog 68 #[.string s, .string sep] w fun e w' =>
      e = .returned (.slice (some ⟨w.heap.size, 0, none⟩) (Lib.countB s sep + 1) (Lib.countB s sep + 1)) ∧ w' = w.alloc (.cells ((Lib.splitB sep 0 (Lib.countB s sep) s).map Value.string).toArray 9) := Any.strings_Split Tryz.lays146 (by kernel_rfl) s sep m w hs hm h1
def Tryz.lays155_ren : Go.Shelf.Ren := ⟨fun | 155 => 148 | 154 => 217 | 138 => 213 | 165 => 261 | 143 => 214 | 166 => 262 | 197 => 257 | 169 => 263 | 195 => 256 | 218 => 258 | 240 => 297 | 241 => 298 | 219 => 259 | 260 => 291 | 276 => 321 | 277 => 322 | 217 => 292 | 225 => 293 | 224 => 294 | 267 => 295 | 266 => 319 | 314 => 320 | n => n, fun | 9 => 9 | 3 => 3 | 4 => 4 | 72 => 251 | 0 => 0 | 76 => 185 | 105 => 246 | 21 => 21 | 5 => 5 | 70 => 249 | 20 => 20 | 37 => 22 | 75 => 184 | 127 => 279 | 164 => 307 | 46 => 171 | 119 => 301 | 139 => 304 | 138 => 303 | 146 => 305 | 51 => 290 | 80 => 253 | n => n, fun | 1 => 0 | 3 => 4 | 4 => 5 | n => n⟩
theorem Tryz.lays155 : Go.Proofs.Lays.n155 Tryz.prog Tryz.lays155_ren := {
 mixed := by kernel_rfl
 f138 := fq func213 (by kernel_rfl)
 f143 := fq func214 (by kernel_rfl)
 f154 := fq func217 (by kernel_rfl)
 f155 := fq func148 (by kernel_rfl)
 f165 := fq func261 (by kernel_rfl)
 f166 := fq func262 (by kernel_rfl)
 f169 := fq func263 (by kernel_rfl)
 f195 := fq func256 (by kernel_rfl)
 f197 := fq func257 (by kernel_rfl)
 f217 := fq func292 (by kernel_rfl)
 f218 := fq func258 (by kernel_rfl)
 f219 := fq func259 (by kernel_rfl)
 f224 := fq func294 (by kernel_rfl)
 f225 := fq func293 (by kernel_rfl)
 f240 := fq func297 (by kernel_rfl)
 f241 := fq func298 (by kernel_rfl)
 f260 := fq func291 (by kernel_rfl)
 f266 := fq func319 (by kernel_rfl)
 f267 := fq func295 (by kernel_rfl)
 f276 := fq func321 (by kernel_rfl)
 f277 := fq func322 (by kernel_rfl)
 f314 := fq func320 (by kernel_rfl)
 t0 := underlying0
 a0 := isAgg0
 z0 := sizeOf0
 v0 := zeroValue0
 t3 := underlying3
 a3 := isAgg3
 z3 := sizeOf3
 v3 := zeroValue3
 t4 := underlying4
 a4 := isAgg4
 z4 := sizeOf4
 v4 := zeroValue4
 t5 := underlying5
 a5 := isAgg5
 z5 := sizeOf5
 v5 := zeroValue5
 t9 := underlying9
 a9 := isAgg9
 z9 := sizeOf9
 v9 := zeroValue9
 t20 := underlying20
 a20 := isAgg20
 z20 := sizeOf20
 v20 := zeroValue20
 t21 := underlying21
 a21 := isAgg21
 z21 := sizeOf21
 v21 := zeroValue21
 t37 := underlying22
 a37 := isAgg22
 z37 := sizeOf22
 v37 := zeroValue22
 t46 := underlying171
 a46 := isAgg171
 z46 := sizeOf171
 v46 := zeroValue171
 t51 := underlying290
 a51 := isAgg290
 z51 := sizeOf290
 v51 := zeroValue290
 t70 := underlying249
 a70 := isAgg249
 z70 := sizeOf249
 v70 := zeroValue249
 t72 := underlying251
 a72 := isAgg251
 z72 := sizeOf251
 v72 := zeroValue251
 t75 := underlying184
 a75 := isAgg184
 z75 := sizeOf184
 v75 := zeroValue184
 t76 := underlying185
 a76 := isAgg185
 z76 := sizeOf185
 v76 := zeroValue185
 t105 := underlying246
 a105 := isAgg246
 z105 := sizeOf246
 v105 := zeroValue246
 t119 := underlying301
 a119 := isAgg301
 z119 := sizeOf301
 t127 := underlying279
 a127 := isAgg279
 z127 := sizeOf279
 v127 := zeroValue279
 t138 := underlying303
 a138 := isAgg303
 z138 := sizeOf303
 v138 := zeroValue303
 t139 := underlying304
 a139 := isAgg304
 z139 := sizeOf304
 v139 := zeroValue304
 t146 := underlying305
 a146 := isAgg305
 z146 := sizeOf305
 v146 := zeroValue305
 t164 := underlying307
 a164 := isAgg307
 z164 := sizeOf307
 v164 := zeroValue307
 g1 := by kernel_rfl
 g3 := by kernel_rfl
 g4 := by kernel_rfl }
theorem Tryz.Builder_Extra_155 : Builder.Extra Tryz.prog Tryz.lays155_ren := {
 sizeBuilder := by kernel_rfl
 liesBuilder := by kernel_rfl
 t5 := underlying5
 a5 := isAgg5
 z5 := sizeOf5
 v5 := zeroValue5
 infoByte := by kernel_rfl
 cellsByte := by kernel_rfl
 sizeByte := by kernel_rfl
 neB5 := by decide }
open Go.RowKit Go.Lib in
theorem Tryz.strings_ReplaceAll (s old new : ByteArray) (m : Int) (w : World) (hs : s.size < 4294967281) (hm : w.cell? ⟨0, 0, none⟩ = some (.int .i64 m)) (h1 : 1 ≤ old.size) (hlen : s.size + Lib.countB s old * new.size ≤ 140737488355328) :
    Calls Tryz.prog 148 #[.string s, .string old, .string new] w fun e w' =>
      e = .returned (.string ⟨(Lib.replaceAll s.data.toList old.data.toList new.data.toList).toArray⟩) ∧ Below w.heap.size w w' := Any.strings_ReplaceAll Tryz.lays155 Tryz.Builder_Extra_155 s old new m w hs hm h1 hlen
end Go.Proofs
