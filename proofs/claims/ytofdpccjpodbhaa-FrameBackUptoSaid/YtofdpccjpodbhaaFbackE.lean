/-
  FrameBack's walk end of the round of its second loop. Conditions: the slices lie in memory and are not past 2^20 elements, the numbers are ones.
-/
import Derived.Test.YtofdpccjpodbhaaFbackD
import Derived.Deep.DeepCutAuto
import Derived.Deep.AppendLies
import Derived.Deep.QuietTactic
import Derived.BigQuiet
import Derived.Deep.RegionLaw
namespace Go.Proofs.Ytofdpccjpodbhaa
open Go.RowKit
set_option linter.unusedVariables false

set_option maxHeartbeats 8000000 in
set_option maxRecDepth 20000 in
theorem fbackE (w : World) (a0 a1 a2 a3 : Option Addr) (n0 n1 n2 n3 c0 c1 c2 c3 : Nat) (L : List FrIn) (pr : List Int) (l2 l3 : List UInt8) (cut : Int)
    (hc1 : -9223372036854775808 ≤ cut) (hc2 : cut ≤ 9223372036854775807) (z0 : n0 ≤ 1048576) (z1 : n1 ≤ 1048576) (z2 : n2 ≤ 1048576) (z3 : n3 ≤ 1048576) : (fbackD w a0 a1 a2 a3 n0 n1 n2 n3 c0 c1 c2 c3 L pr l2 l3 cut hc1 hc2 z0 z1 z2 z3).1 := by
  intro w1 HB1 G3 GP GL l2l va wA Z2 Y1 Y2 u16 u17 u18 u19 u20 u21 u22 u23 u24 Z4 Z5 Z6 Z7 Z8 Z9 Z10 Z11 u51 Z12 Z13 Z14 Z15 Z16 Z17 Z18 Z19 Z20 Z21 Z22 Z23 Z24 Z25 Z26 Z27 Z28 Z29 Z30 Z31 Z32 Z33 Z34 Z35 Z36 Z37 Z38 Z39 Z40 Z41 Z42 Z43 Z44 Z45 Z46 Z47 Z48 Z49 Z50 Z51 Z52 Z53 Z54 Z55 Z56 Z57 Z58 Z59 Z60 Z61 Z62 Z63 Z64 Z65 Z66 Z67 Z68 Z69 Z70 Z71 Z72 Z73 Z74 Z75 Z76 Z77 Z78 Z79 Z80 Z81 Z82 Z83 Z84 Z85 Z86 Z87 Z88 Z89 Z90 Z91 Z92 Z93 Z94 Z95 Z96 Z97 Z98 Z99 Z100 Z101 Z102 Z103 Z104 Z105 Z106 Z107 Z108 Z109 Z110 Z111 Z112 Z113 Z114 Z115 Z116 Z117 Z118 Z119 Z120 i l P hi pa ca hcap m hle hll HM Z122 u43 u44 u45 u46 u47 u48 u49 u50 u52 u53 u54 u55 u56 u57 u58 u59 u60 u61 u62 u63 u64 u65 u66 u67 u68 u69 u70 u71 u72 u73 u74 u75 u76 u77 u78 u79 u80 u81 u82 u83 u84 u85 u86 u87 u88 u89 u90 u91 u92 u93 u94 u95 u96 u97 u98 u99 u100 u101 u102 u103 u104 u105 u106 u107 u108 u109 u110 u111 u112 u113 u114 u115 u116 u117 u118 u119 u120 u121 u122 u123 u124 u125 u126 u127 u128 u129 u130 u131 u132 u133 u134 u135 u136 u137 u138 u139 u140 u141 u142 u143 u144 u145 u146 u147 u148 u149 u150 u151 u152 u153 u154 u155 u156 u157 u158 u159 u160 Y3 w5 pb cb cp hpp2 cf hpf2 hMc M hMl q hPi hpf1 hpp1 hMM hmM HST HQ HLM Y4 Y5 wr u10 u27 u28 u29 u30 X1 u32 u33 u34 X2 u36 u37 X3 X4 X5 X6 X7 X8 X9 X10 X11 X12 X13 X14 X15 X16 X17 X18 X19 X20 X21 X22 X23 X24 X25 X26 X27 X28 X29 X30 X31 X32 X33 X34 X35 X36 X37 X38 X39 X40 X41 X42 X43 X44 X45 X46 X47 X48 X49 X50 X51 X52 X53 X54 X55 X56 X57 X58 X59 X60 X61 X62 X63 X64 X65 X66 X67 X68 X69 X70 X71 X72 X73 X74 X75 X76 X77 X78 X79 X80 X81 X82 X83 X84 X85 X86 X87 X88 X89 X90 X91 X92 X93 X94 X95 X96 X97 X98 X99 X100 X101 X102 X103 X104 X105 X106 X107 X108 X109 X110 X111 X112 X113 X114 X115 X116 X117 X118 X119 X120 X121 X122 X123 X124 X125 X126 X127 X128 X129 X130 X131 X132 X133 X134 X135 X136 X137 X138 X139 X140 X141 X142 X143 X144 X145 X146 X147 X148 j hj hlt gp HPP X149 hgp gf HPF HF Z121 Z123 HF5 X150 hgf p X fT fC ea ce ext ba cg body N hps hNl hN8 X151 X152 X153 hpN w6 ea' ne' ce' ba' nb' cb' X154 Z HMU HX H0 q7 hN' hN2 HNN i1l i2l fb w7 hpNb X155 X156 X157 X158 X159 X160 X161 X162 X163 X164 X165 X166 X167 X168 X169 X170 X171 X172 X173 X174 X175 X176 X177 X178 X179 X180 X181 X182 X183 X184 X185 X186 X187 X188 X189 X190 X191 X192 X193 X194 X195 X196 X197 X198 X199 X200 X201 X202 X203 X204 X205 X206 X207 X208 X209 X210 X211 X212 X213 X214 X215 X216 X217 X218 X219 X220 X221 X222 X223 X224 X225 X226 X227 X228 X229 X230 X231 X232 X233 X234 X235 X236 X237 X238 X239 X240 X241 X242 X243 X244 X245 X246 X247 X248 X249 X250 X251 X252 X253 X254 X255 X256 X257 X258 X259 X260 X261 X262 X263 X264 X265 X266 X267 X268 X269 X270 X271 X272 X273 X274 X275 X276 X277 X278 X279 X280 X281 X282 X283 X284 X285 X286 X287 X288 X289 X290 X291 X292 X293 X294 X295 X296 X297 X298 X299 X300 t1 w8 d0 d1 d2 d3 y5 y0 y1 y2 y3 JJ F8 HB8 E1 v1 v2 E2 v3 v4 X301 X302 wc u31 u35 u166 u167 u168 u169 u170 u171 u172 u173 u174 u175 u176 u177 u178 u179 u180 u181 u182 u183 u184 u185 u186 u187 u188 u189 u190 u191 u192 u193 u194 u195 u196 u197 u198 u199 u200 u201 u202 u203 u204 u205 u206 u207 u208 u209 u210 u211 u212 u213 u214 u215 u216 u217 u218 u219 u220 u221 u222 u223 u224 u225 u226 u227 u228 u229 u230 u231 u232 u233 u234 u235 u236 u237 u238 u239 u240 u241 u242 u243 u244 u245 u246 u247 u248 u249 u250 u251 u252 u253 u254 u255 u256 u257 u258 u259 u260 u261 u262 u263 u264 u265 u266 u267 u268 u269 u270 u271 u272 u273 u274 u275 u276 u277 u278 u279 u280 u281 u282 u283 u284 u285 u286 u287 u288 u289 u290 u291 u292 u293 u294 u295 u296 u297 u298 u299 u300 u301 u302 u303 u304 u305 u306 u307 u308 u309 u310 u311 hcut
  clear v1 v2 v3 v4 y0 y1 y2 y3 d0 d1 d2 d3 y5
  obtain ⟨rfl, t2, rfl⟩ := hcut
  have b9 : Below w8.heap.size w8 (w8.drewN t2) := ⟨rfl, rfl, rfl, Nat.le_refl _, fun _ _ => rfl⟩
  have hB9 := HB8.out.trans (b9.mono HB8.out.size)
  have f9 := (b9.block fb (Array.getElem?_eq_some_iff.1 F8.out).1).trans F8.out
  have j19 := JJ.out.1.below b9
  have j29 := JJ.out.2.1.below b9
  generalize w8.drewN t2 = w9 at *
  clear b9 JJ F8 HB8
  have d0 : w9.cell? ⟨fb, 0, none⟩ = some (.int .i64 fT) := by simp [World.cell?, f9]
  have d1 : w9.cell? ⟨fb, 1, none⟩ = some (.int .i64 fC) := by simp [World.cell?, f9]
  have d2 : w9.cell? ⟨fb, 2, none⟩ = some (.slice ea' ne' ce') := by simp [World.cell?, f9]
  have d3 : w9.cell? ⟨fb, 3, none⟩ = some (.slice ba' nb' cb') := by simp [World.cell?, f9]
  have hso := seal_ok w9 fT fC ea' ba' ne' ce' nb' cb' ext body j19 j29 HNN.out.2.1 HNN.out.2.2.1 HNN.out.2.2.2.1 HNN.out.2.2.2.2.1 HNN.out.2.2.2.2.2.1 HNN.out.2.2.2.2.2.2 (by rw [HNN.out.1]; exact hNl)
  rw [HNN.out.1] at hso
  clear f9 j19 j29
  go_wp2_with fail
  refine hso.mono ?_
  rintro e w10 ⟨g2, rfl, hg2, hb10, hk10⟩
  have hBA := hB9.trans (hb10.mono hB9.size)
  have hFA := HF5.out.below hBA
  clear hso d0 d1 d2 d3 hb10 hg2 hB9
  obtain ⟨ga, _, hga, _, _⟩ := hFA.all.row.form (by rw [HLM.out]; omega)
  simp only [Value.slice.injEq] at hga
  have hpb := hga.1
  clear hga
  subst hpb
  have hby := hFA.all.slice.2
  have hlS := sealB_length fT fC ext body
  have v1 : ∀ m, (convert 22 9 (.slice (some ⟨g2, 0, none⟩) N N)).run Try.prog (w10.drewN m) = .ok (.string ⟨(sealB fT fC ext body).toArray⟩) (w10.drewN m) := fun m => run_string_bytes _ _ _ 5 Try.underlying22 Try.underlying5 Try.underlying9 _ _ _ _ ((hk10.drewN m).all N N (by rw [hlS, ← HNN.out.1]; have := i1l; have := i2l; omega) (Nat.le_refl _) (by unfold maxLen; omega))
  have hsub := hby.sub p N (by omega)
  rw [Nat.zero_add] at hsub
  have hpn : p + N - p = N := by omega
  have hbt : ((l ++ l3).drop p).take N = sealB fT fC ext body := by
    rw [List.drop_append_of_le_length (by rw [HM.out]; omega), HX.out, List.append_assoc]
    exact List.take_left' (by show (sealB fT fC ext body).length = N; rw [hlS, ← HNN.out.1, i1l, i2l])
  rw [hbt] at hsub
  have v2 : ∀ m, (convert 22 9 (.slice (some ⟨ga, p, none⟩) N (cb - p))).run Try.prog (w10.drewN m) = .ok (.string ⟨(sealB fT fC ext body).toArray⟩) (w10.drewN m) := fun m =>
    run_string_bytes _ _ _ 5 Try.underlying22 Try.underlying5 Try.underlying9 _ _ _ _ (hsub.below ⟨rfl, rfl, rfl, Nat.le_refl _, fun _ _ => rfl⟩)
  have v3 : ∀ m, (convert 22 9 (.slice (some ⟨ga, p, none⟩) (p + N - p) (cb - p))).run Try.prog (w10.drewN m) = .ok (.string ⟨(sealB fT fC ext body).toArray⟩) (w10.drewN m) := fun m => by
    rw [hpn]; exact v2 m
  have HBA := Lib.hid hBA
  have y5 := (hBA.cell (p := ⟨gp, j, none⟩) hgp).trans Z.out.1
  clear hBA hFA hby hsub hbt hlS hk10 i1l i2l hpn
  generalize (⟨(sealB fT fC ext body).toArray⟩ : ByteArray) = E at v1 v2 v3
  have hcA : (p : Int) + (N : Int) ≤ (cb : Int) := by omega
  have hcB : (p : Int) ≤ (p : Int) + (N : Int) := by omega
  go_upto_region 38 with fail
  go_cut [278] (fun s278 wx => s278 = .bool false ∧ ∃ t, wx = w10.drewN t)
  case first =>
    go_big_quiet (fail)
    go_wp2_with fail
    go_meet
    case rel => exact ⟨rfl, _, rfl⟩
  case rest =>
    clear v1 v2 v3 y5 hcA hcB
    obtain ⟨rfl, t3, rfl⟩ := hcut
    have hBB : Below w5.heap.size w5 (w10.drewN t3) := HBA.out.trans ⟨rfl, rfl, rfl, Nat.le_refl _, fun _ _ => rfl⟩
    generalize w10.drewN t3 = w11 at *
    have y5 := (hBB.cell (p := ⟨gp, j, none⟩) hgp).trans Z.out.1
    clear HBA
    have HBB := Lib.hid hBB
    clear hBB
    go_upto_region 40 with fail
    go_upto_if 284 with fail
    go_cut [34] (fun s34 wx => ∃ sh : Nat, p ≤ sh ∧ sh < p + N ∧ s34 = .int .i64 (sh : Int) ∧ ∃ t, wx = w11.drewN t)
    case first =>
      by_cases hc0 : 0 < cut
      · obtain ⟨c, rfl⟩ := Int.eq_ofNat_of_zero_le (show 0 ≤ cut by omega)
        clear hc1 hc2
        go_upto_region 42 with fail
        go_big_quiet (fail)
        go_wp2_with fail
        go_meet
        case rel =>
          have hml := Nat.mod_lt c (show 0 < N by omega)
          refine ⟨p + c % N, by omega, by omega, ?_, _, rfl⟩
          rw [show ((p : Int) + (N : Int) - (p : Int)) = (N : Int) by omega, show (c : Int) % (N : Int) = ((c % N : Nat) : Int) by omega]
          simp only [wrap64]
          exact congrArg (Value.int .i64) (by omega)
      · go_wp2_with fail
        go_meet
        case rel => exact ⟨p, Nat.le_refl _, by omega, rfl, 0, rfl⟩
    case rest =>
      clear y5
      obtain ⟨sh, hs1, hs2, rfl, t4, rfl⟩ := hcut
      have hBC : Below w5.heap.size w5 (w11.drewN t4) := HBB.out.trans ⟨rfl, rfl, rfl, Nat.le_refl _, fun _ _ => rfl⟩
      generalize w11.drewN t4 = w12 at *
      have y5 := (hBC.cell (p := ⟨gp, j, none⟩) hgp).trans Z.out.1
      clear HBB
      have hX2 : (l ++ l3).drop p = (FrIn.bytes ⟨fT, fC, ea, ne', ce, ext, ba, nb', cg, body⟩) ++ (X ++ l3) := by
        rw [List.drop_append_of_le_length (by rw [HM.out]; omega), HX.out, List.append_assoc]
      have hct : openR ((l ++ l3).take sh) (p : Int) (1048576 : Int) = _ := stand_cut (M := 1048576) (s := sh) (GL.out.ok _ (HF5.out.mem _ HMU.out)) H0.out (by rw [HLM.out]; show p + (8 + ne' + nb') ≤ M; rw [HNN.out.1]; omega) hX2 (by show 8 + ne' + nb' ≤ _; rw [HNN.out.1]; exact hNl) (by decide) (by decide) hs1 (by show sh < p + (8 + ne' + nb'); rw [HNN.out.1]; exact hs2)
      have hop : ∀ ww, Below w5.heap.size w5 ww → Calls Try.prog 18 #[.slice (some ⟨ga, 0, none⟩) sh cb, .int .i64 p, .int .i64 1048576] ww (fun e w' => ∃ ea' ne' ce' ba' nb' cb', e = .returned (.tuple #[.agg #[.int .i64 0, .int .i64 0, .slice ea' ne' ce', .slice ba' nb' cb'], .int .i64 0, .int .i64 10]) ∧ Below ww.heap.size ww w') := fun ww hw => by
        have hbw := ((HF5.out.below hw).all.slice.2).sub 0 sh (by omega)
        refine (open_any ww _ sh cb ((l ++ l3).take sh) p 1048576 ?_ (by omega)).mono fun e w' h => ?_
        · rw [List.drop_zero] at hbw
          exact hbw
        · simp only [OpenPost, hct] at h
          obtain ⟨x1, x2, x3, x4, x5, x6, x7, x8, _⟩ := h
          exact ⟨x1, x2, x3, x4, x5, x6, x7, x8⟩
      have HOP := Lib.hid hop
      have HBd : Hid (Below w5.heap.size w5 w12.drew) := Lib.hid ⟨hBC.os, hBC.tape, hBC.output, hBC.size, hBC.block⟩
      clear hBC hX2 hct hop
      have hr1 : (sh : Int) ≤ (cb : Int) := by omega
      go_upto_region 43 with fail
      have HBe : Hid (Below w5.heap.size w5 (w12.alloc (.cells #[.int .i64 0, .int .i64 0, .slice none 0 0, .slice none 0 0] 24)).drew) := by
        have h := HBd.out.alloc HBd.out.size (.cells #[.int .i64 0, .int .i64 0, .slice none 0 0, .slice none 0 0] 24)
        exact Lib.hid ⟨h.os, h.tape, h.output, h.size, h.block⟩
      have HZe : Hid ((w12.alloc (.cells #[.int .i64 0, .int .i64 0, .slice none 0 0, .slice none 0 0] 24)).drew.heap[w12.heap.size]? = some (.cells #[.int .i64 0, .int .i64 0, .slice none 0 0, .slice none 0 0] 24 (0, 0))) := Lib.hid (heap_alloc_new w12 _)
      have HZl : Hid (w12.heap.size < (w12.alloc (.cells #[.int .i64 0, .int .i64 0, .slice none 0 0, .slice none 0 0] 24)).drew.heap.size) := Lib.hid (by show w12.heap.size < (w12.alloc _).heap.size; simp)
      have y5e := (HBe.out.cell (p := ⟨gp, j, none⟩) hgp).trans Z.out.1
      go_region_law (first
        | (go_simp; go_at_call 18; (with_reducible refine (HOP.out _ HBd.out).mono ?_); rintro e w13 ⟨ea2, ne2, ce2, ba2, nb2, cb2, rfl, hb13⟩)
        | (go_simp; go_at_call 18; (with_reducible refine (HOP.out _ HBe.out).mono ?_); rintro e w13 ⟨ea2, ne2, ce2, ba2, nb2, cb2, rfl, hb13⟩; have hh13 := (hb13.block w12.heap.size HZl.out).trans HZe.out; have e0 : w13.cell? ⟨w12.heap.size, 0, none⟩ = some (.int .i64 0) := (by simp [World.cell?, hh13]); have e1 : w13.cell? ⟨w12.heap.size, 1, none⟩ = some (.int .i64 0) := (by simp [World.cell?, hh13]); have e2 : w13.cell? ⟨w12.heap.size, 2, none⟩ = some (.slice none 0 0) := (by simp [World.cell?, hh13]); have e3 : w13.cell? ⟨w12.heap.size, 3, none⟩ = some (.slice none 0 0) := (by simp [World.cell?, hh13]); have ef : ∀ k, w13.frozen? ⟨w12.heap.size, k, none⟩ = false := (by intro k; simp [World.frozen?, hh13])))
      all_goals
        have hsz12 : w5.heap.size ≤ w12.heap.size := HBd.out.size
        go_wp2_with fail
        go_roundw
        case rel =>
          first
            | exact ⟨j + 1, by omega, by go_num, (HBd.out.trans (hb13.mono HBd.out.size)).alloc (Nat.le_trans HBd.out.size hb13.size) _⟩
            | exact ⟨j + 1, by omega, by go_num, ((((HBe.out.trans (hb13.mono HBe.out.size)).setCell hsz12 _).setCell hsz12 _).setCell hsz12 _).setCell hsz12 _⟩
        case measure => simp [intOf]; omega
end Go.Proofs.Ytofdpccjpodbhaa
