/-
  FrameBack's walk behind its first loop. Conditions: the slices lie in memory and are not past 2^20 elements, the numbers are ones.
-/
import Derived.Test.YtofdpccjpodbhaaFbackA
import Derived.Deep.DeepCutAuto
import Derived.Deep.AppendLies
import Derived.Deep.QuietTactic
import Derived.BigQuiet
import Derived.Deep.RegionLaw
namespace Go.Proofs.Ytofdpccjpodbhaa
open Go.RowKit
set_option linter.unusedVariables false

set_option maxHeartbeats 8000000 in
set_option maxRecDepth 20000 in
noncomputable def fbackC (w : World) (a0 a1 a2 a3 : Option Addr) (n0 n1 n2 n3 c0 c1 c2 c3 : Nat) (L : List FrIn) (pr : List Int) (l2 l3 : List UInt8) (cut : Int)
    (hc1 : -9223372036854775808 ≤ cut) (hc2 : cut ≤ 9223372036854775807) (z0 : n0 ≤ 1048576) (z1 : n1 ≤ 1048576) (z2 : n2 ≤ 1048576) (z3 : n3 ≤ 1048576) : (R : Prop) ×' (Hid R → (fbackA w a0 a1 a2 a3 n0 n1 n2 n3 c0 c1 c2 c3 L pr l2 l3 cut hc1 hc2 z0 z1 z2 z3).2.1) :=
  ⟨_, fun hR => by
  intro w1 HB1 G3 GP GL l2l va wA Z2 Z3 wr u10 u13 u14 u16 u17 u18 u19 u20 u21 u22 u23 u24 Z4 Z5 Z6 Z7 Z8 Z9 Z10 Z11 u51 Z12 Z13 Z14 Z15 Z16 Z17 Z18 Z19 Z20 Z21 Z22 Z23 Z24 Z25 Z26 Z27 Z28 Z29 Z30 Z31 Z32 Z33 Z34 Z35 Z36 Z37 Z38 Z39 Z40 Z41 Z42 Z43 Z44 Z45 Z46 Z47 Z48 Z49 Z50 Z51 Z52 Z53 Z54 Z55 Z56 Z57 Z58 Z59 Z60 Z61 Z62 Z63 Z64 Z65 Z66 Z67 Z68 Z69 Z70 Z71 Z72 Z73 Z74 Z75 Z76 Z77 Z78 Z79 Z80 Z81 Z82 Z83 Z84 Z85 Z86 Z87 Z88 Z89 Z90 Z91 Z92 Z93 Z94 Z95 Z96 Z97 Z98 Z99 Z100 Z101 Z102 Z103 Z104 Z105 Z106 Z107 Z108 Z109 Z110 Z111 Z112 Z113 Z114 Z115 Z116 Z117 Z118 Z119 Z120 i l P hi hPi pa ca hcap m hle hll HM HF Z121 Z122 Z123 Z124 Z125 u43 u44 u45 u46 u47 u48 u49 u50 u52 u53 u54 u55 u56 u57 u58 u59 u60 u61 u62 u63 u64 u65 u66 u67 u68 u69 u70 u71 u72 u73 u74 u75 u76 u77 u78 u79 u80 u81 u82 u83 u84 u85 u86 u87 u88 u89 u90 u91 u92 u93 u94 u95 u96 u97 u98 u99 u100 u101 u102 u103 u104 u105 u106 u107 u108 u109 u110 u111 u112 u113 u114 u115 u116 u117 u118 u119 u120 u121 u122 u123 u124 u125 u126 u127 u128 u129 u130 u131 u132 u133 u134 u135 u136 u137 u138 u139 u140 u141 u142 u143 u144 u145 u146 u147 u148 u149 u150 u151 u152 u153 u154 u155 u156 u157 u158 u159 u160 hall hbs g3
  go_upto_region 28 with fail
  go_wp2_with (at_builtin; refine wpList_append_bytes rfl (.tmp 163) (.tmp 164) 22 rfl w1.heap.size 5 Try.underlying22 info_u8 (.slice pa m ca) l l3 _ n3 c3 rfl rfl hall g3 ?hlen hbs ?_)
  case hlen => rw [HM.out]; omega
  intro v5 w5 ho5 hg5
  have hF5 := HF.out.putBytes ho5 hg5
  have hst := HF.out.stand
  obtain ⟨pb, cb, rfl, hby⟩ := hF5.form
  obtain ⟨pp, cp, rfl, hpp1, hpp2, hpp3⟩ := row_form hF5.places
  obtain ⟨pf, cf, rfl, hpf1, hpf2, hpf3⟩ := row_form hF5.frames
  have hlM : (l ++ l3).length = m + n3 := by rw [List.length_append, HM.out, G3.out.len]
  rw [hlM] at hby hF5 ⊢
  have hMc := hby.cap
  have hMl := hby.le
  unfold maxLen at hMc hpp2 hpf2
  obtain ⟨M, hM⟩ : ∃ M, m + n3 = M := ⟨_, rfl⟩
  obtain ⟨q, hq⟩ : ∃ q, P.length = q := ⟨_, rfl⟩
  rw [hM] at hby hF5 hMl hlM ⊢
  rw [hq] at hF5 hpp1 hpp3 hpf1 hpf3 hPi ⊢
  have hMM : M ≤ 6097168 := by omega
  have hmM : m ≤ M := by omega
  have HF5 := Lib.hid hF5
  have HST := Lib.hid hst
  have HQ := Lib.hid hq
  have HLM := Lib.hid hlM
  have HPP := Lib.hid hpp3
  have HPF := Lib.hid hpf3
  clear hall g3 ho5 hg5 hF5 hst hby hq hlM hpp3 hpf3 hM hbs
  go_wp2_with fail
  go_loopw [26] (fun s26 wr => ∃ (j : Nat), j ≤ q ∧ s26 = .int .i64 j ∧ Below w5.heap.size w5 wr) (fun s26 _ => q - (intOf s26).toNat)
  case atStart => exact ⟨0, by omega, rfl, Below.refl _ _⟩
  case round =>
    obtain ⟨j, hj, rfl, hB⟩ := hrel
    have hF := HF5.out.below hB
    by_cases hlt : j < q
    · rename_i Y1 Y2 Y3 Y4 Y5
      revert w1 HB1 G3 GP GL l2l va wA Z2 Y1 Y2 u16 u17 u18 u19 u20 u21 u22 u23 u24 Z4 Z5 Z6 Z7 Z8 Z9 Z10 Z11 u51 Z12 Z13 Z14 Z15 Z16 Z17 Z18 Z19 Z20 Z21 Z22 Z23 Z24 Z25 Z26 Z27 Z28 Z29 Z30 Z31 Z32 Z33 Z34 Z35 Z36 Z37 Z38 Z39 Z40 Z41 Z42 Z43 Z44 Z45 Z46 Z47 Z48 Z49 Z50 Z51 Z52 Z53 Z54 Z55 Z56 Z57 Z58 Z59 Z60 Z61 Z62 Z63 Z64 Z65 Z66 Z67 Z68 Z69 Z70 Z71 Z72 Z73 Z74 Z75 Z76 Z77 Z78 Z79 Z80 Z81 Z82 Z83 Z84 Z85 Z86 Z87 Z88 Z89 Z90 Z91 Z92 Z93 Z94 Z95 Z96 Z97 Z98 Z99 Z100 Z101 Z102 Z103 Z104 Z105 Z106 Z107 Z108 Z109 Z110 Z111 Z112 Z113 Z114 Z115 Z116 Z117 Z118 Z119 Z120 i l P hi pa ca hcap m hle hll HM Z122 u43 u44 u45 u46 u47 u48 u49 u50 u52 u53 u54 u55 u56 u57 u58 u59 u60 u61 u62 u63 u64 u65 u66 u67 u68 u69 u70 u71 u72 u73 u74 u75 u76 u77 u78 u79 u80 u81 u82 u83 u84 u85 u86 u87 u88 u89 u90 u91 u92 u93 u94 u95 u96 u97 u98 u99 u100 u101 u102 u103 u104 u105 u106 u107 u108 u109 u110 u111 u112 u113 u114 u115 u116 u117 u118 u119 u120 u121 u122 u123 u124 u125 u126 u127 u128 u129 u130 u131 u132 u133 u134 u135 u136 u137 u138 u139 u140 u141 u142 u143 u144 u145 u146 u147 u148 u149 u150 u151 u152 u153 u154 u155 u156 u157 u158 u159 u160 Y3 w5 pb cb pp cp hpp2 pf cf HF Z121 Z123 hpf2 hMc M hMl q hPi hpf1 hpp1 hMM hmM HF5 HST HQ HLM HPP HPF Y4 Y5 wr u10 u27 u28 u29 u30 u31 u32 u33 u34 u35 u36 u37 u166 u167 u168 u169 u170 u171 u172 u173 u174 u175 u176 u177 u178 u179 u180 u181 u182 u183 u184 u185 u186 u187 u188 u189 u190 u191 u192 u193 u194 u195 u196 u197 u198 u199 u200 u201 u202 u203 u204 u205 u206 u207 u208 u209 u210 u211 u212 u213 u214 u215 u216 u217 u218 u219 u220 u221 u222 u223 u224 u225 u226 u227 u228 u229 u230 u231 u232 u233 u234 u235 u236 u237 u238 u239 u240 u241 u242 u243 u244 u245 u246 u247 u248 u249 u250 u251 u252 u253 u254 u255 u256 u257 u258 u259 u260 u261 u262 u263 u264 u265 u266 u267 u268 u269 u270 u271 u272 u273 u274 u275 u276 u277 u278 u279 u280 u281 u282 u283 u284 u285 u286 u287 u288 u289 u290 u291 u292 u293 u294 u295 u296 u297 u298 u299 u300 u301 u302 u303 u304 u305 u306 u307 u308 u309 u310 u311 j hj hB hF hlt
      exact hR.out
    · obtain rfl : j = q := by omega
      have hfin : Below w.heap.size w wr := (HB1.out.trans (HF5.out.bel.mono HB1.out.size)).trans (hB.mono (Nat.le_trans HB1.out.size HF5.out.bel.size))
      have HFIN := Lib.hid hfin
      clear hfin hF
      go_wp2_with fail
      go_ret
      exact ⟨rfl, HFIN.out⟩⟩
end Go.Proofs.Ytofdpccjpodbhaa
