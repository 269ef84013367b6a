/-
  FrameBack's walk round of its second loop. Conditions: the slices lie in memory and are not past 2^20 elements, the numbers are ones.
-/
import Derived.Test.YtofdpccjpodbhaaFbackC
import Derived.Deep.DeepCutAuto
import Derived.Deep.AppendLies
import Derived.Deep.QuietTactic
import Derived.BigQuiet
import Derived.Deep.RegionLaw
namespace Go.Proofs.Ytofdpccjpodbhaa
open Go.RowKit
set_option linter.unusedVariables false

set_option maxHeartbeats 8000000 in
set_option maxRecDepth 20000 in
noncomputable def fbackD (w : World) (a0 a1 a2 a3 : Option Addr) (n0 n1 n2 n3 c0 c1 c2 c3 : Nat) (L : List FrIn) (pr : List Int) (l2 l3 : List UInt8) (cut : Int)
    (hc1 : -9223372036854775808 ≤ cut) (hc2 : cut ≤ 9223372036854775807) (z0 : n0 ≤ 1048576) (z1 : n1 ≤ 1048576) (z2 : n2 ≤ 1048576) (z3 : n3 ≤ 1048576) : (R : Prop) ×' (Hid R → (fbackC w a0 a1 a2 a3 n0 n1 n2 n3 c0 c1 c2 c3 L pr l2 l3 cut hc1 hc2 z0 z1 z2 z3).1) :=
  ⟨_, fun hR => by
  intro w1 HB1 G3 GP GL l2l va wA Z2 Y1 Y2 u16 u17 u18 u19 u20 u21 u22 u23 u24 Z4 Z5 Z6 Z7 Z8 Z9 Z10 Z11 u51 Z12 Z13 Z14 Z15 Z16 Z17 Z18 Z19 Z20 Z21 Z22 Z23 Z24 Z25 Z26 Z27 Z28 Z29 Z30 Z31 Z32 Z33 Z34 Z35 Z36 Z37 Z38 Z39 Z40 Z41 Z42 Z43 Z44 Z45 Z46 Z47 Z48 Z49 Z50 Z51 Z52 Z53 Z54 Z55 Z56 Z57 Z58 Z59 Z60 Z61 Z62 Z63 Z64 Z65 Z66 Z67 Z68 Z69 Z70 Z71 Z72 Z73 Z74 Z75 Z76 Z77 Z78 Z79 Z80 Z81 Z82 Z83 Z84 Z85 Z86 Z87 Z88 Z89 Z90 Z91 Z92 Z93 Z94 Z95 Z96 Z97 Z98 Z99 Z100 Z101 Z102 Z103 Z104 Z105 Z106 Z107 Z108 Z109 Z110 Z111 Z112 Z113 Z114 Z115 Z116 Z117 Z118 Z119 Z120 i l P hi pa ca hcap m hle hll HM Z122 u43 u44 u45 u46 u47 u48 u49 u50 u52 u53 u54 u55 u56 u57 u58 u59 u60 u61 u62 u63 u64 u65 u66 u67 u68 u69 u70 u71 u72 u73 u74 u75 u76 u77 u78 u79 u80 u81 u82 u83 u84 u85 u86 u87 u88 u89 u90 u91 u92 u93 u94 u95 u96 u97 u98 u99 u100 u101 u102 u103 u104 u105 u106 u107 u108 u109 u110 u111 u112 u113 u114 u115 u116 u117 u118 u119 u120 u121 u122 u123 u124 u125 u126 u127 u128 u129 u130 u131 u132 u133 u134 u135 u136 u137 u138 u139 u140 u141 u142 u143 u144 u145 u146 u147 u148 u149 u150 u151 u152 u153 u154 u155 u156 u157 u158 u159 u160 Y3 w5 pb cb pp cp hpp2 pf cf HF Z121 Z123 hpf2 hMc M hMl q hPi hpf1 hpp1 hMM hmM HF5 HST HQ HLM HPP HPF Y4 Y5 wr u10 u27 u28 u29 u30 u31 u32 u33 u34 u35 u36 u37 u166 u167 u168 u169 u170 u171 u172 u173 u174 u175 u176 u177 u178 u179 u180 u181 u182 u183 u184 u185 u186 u187 u188 u189 u190 u191 u192 u193 u194 u195 u196 u197 u198 u199 u200 u201 u202 u203 u204 u205 u206 u207 u208 u209 u210 u211 u212 u213 u214 u215 u216 u217 u218 u219 u220 u221 u222 u223 u224 u225 u226 u227 u228 u229 u230 u231 u232 u233 u234 u235 u236 u237 u238 u239 u240 u241 u242 u243 u244 u245 u246 u247 u248 u249 u250 u251 u252 u253 u254 u255 u256 u257 u258 u259 u260 u261 u262 u263 u264 u265 u266 u267 u268 u269 u270 u271 u272 u273 u274 u275 u276 u277 u278 u279 u280 u281 u282 u283 u284 u285 u286 u287 u288 u289 u290 u291 u292 u293 u294 u295 u296 u297 u298 u299 u300 u301 u302 u303 u304 u305 u306 u307 u308 u309 u310 u311 j hj hB hF hlt
  obtain ⟨gp, rfl, _, hgp⟩ := HPP.out (by omega)
  obtain ⟨gf, rfl, _, hgf⟩ := HPF.out (by omega)
  obtain ⟨⟨p, f⟩, hu⟩ : ∃ u, P[j]? = some u := ⟨_, List.getElem?_eq_getElem (by rw [HQ.out]; exact hlt)⟩
  obtain ⟨h0, hps, X, hX⟩ := HST.out _ (List.mem_of_getElem? hu)
  have hfm := HF5.out.mem _ (List.mem_of_getElem? hu)
  have hok := (GL.out.ok f hfm).below hF.bel
  simp only [] at h0 hps hX
  rw [HM.out] at hps
  rw [← HQ.out] at hF HF5
  have z5 := HF5.out.place j _ hu
  have zf0 := HF5.out.frame j _ hu 0 _ rfl
  have zf1 := HF5.out.frame j _ hu 1 _ rfl
  have zf2 := HF5.out.frame j _ hu 2 _ rfl
  have zf3 := HF5.out.frame j _ hu 3 _ rfl
  simp only [Nat.add_zero] at zf0
  have Z := Lib.hid (And.intro z5 (And.intro zf0 (And.intro zf1 (And.intro zf2 zf3))))
  have HMU := Lib.hid (List.mem_of_getElem? hu)
  have HX := Lib.hid hX
  have H0 := Lib.hid h0
  have hX2 : (l ++ l3).drop p = f.bytes ++ (X ++ l3) := by
    rw [List.drop_append_of_le_length (by rw [HM.out]; unfold FrIn.size at hps; omega), hX, List.append_assoc]
  have hsz := sealE_zero h0
  obtain ⟨q1, q2, q3, q4, q5, q6, q7⟩ := hsz
  have ho : openR (l ++ l3) (p : Int) (1048576 : Int) = _ := stand_open (M := 1048576) hok h0 (l := l ++ l3) (p := p) (by rw [HLM.out]; omega) hX2 q7 (by decide) (by decide)
  obtain ⟨fT, fC, ea, ne, ce, ext, ba, nb, cg, body⟩ := f
  simp only [] at q1 q2 q3 q4 q5 q6 q7 zf0 zf1 zf2 zf3 ho hok
  have hT : ((fT.toNat : Nat) : Int) = fT := by omega
  have hC : ((fC.toNat : Nat) : Int) = fC := by omega
  obtain ⟨N, hN⟩ : ∃ N, 8 + ne + nb = N := ⟨_, rfl⟩
  have hfs : FrIn.size ⟨fT, fC, ea, ne, ce, ext, ba, nb, cg, body⟩ = N := hN
  have hN' : (8 : Int) + (ne : Int) + (nb : Int) = (N : Int) := by omega
  have hN2 : (p : Int) + 8 + (ne : Int) + (nb : Int) = (p : Int) + (N : Int) := by omega
  rw [hfs] at ho hps
  have hpN : ¬ (m : Int) < (p : Int) + (N : Int) := by omega
  have hNl : N ≤ 1048576 := by omega
  have hN8 : 8 ≤ N := by omega
  have hop : Calls _ _ _ _ (fun e w' => ∃ ea' ne' ce' ba' nb' cb', e = .returned (.tuple #[.agg #[.int .i64 fT, .int .i64 fC, .slice ea' ne' ce', .slice ba' nb' cb'], .int .i64 ((p : Int) + (N : Int)), .int .i64 0]) ∧ Below _ _ w' ∧ OwnBytes w' _ 5 (.slice ea' ne' ce') ext ∧ OwnBytes w' _ 5 (.slice ba' nb' cb') body ∧ Apart (.slice ea' ne' ce') (.slice ba' nb' cb')) :=
    (open_any wr pb M cb (l ++ l3) p 1048576 (hF.all.slice.2) (by omega)).mono fun e w' h => by
      simp only [OpenPost, ho, hT, hC] at h; exact h
  have y5 := (hB.cell (p := ⟨gp, j, none⟩) hgp).trans z5
  have hsl := hok.e.len
  have hbl := hok.b.len
  simp only [] at hsl hbl
  have HNN := Lib.hid (And.intro hN (And.intro q1 (And.intro q2 (And.intro q3 (And.intro q4 (And.intro q5 q6))))))
  clear z5 zf0 zf1 zf2 zf3 hX hX2 ho hT hC hok q1 q2 q3 q4 q5 q6 h0 hu hN hfs hfm
  go_wp2_with fail
  refine hop.mono ?_
  rintro e w6 ⟨ea', ne', ce', ba', nb', cb', rfl, hb6, o1, o2, _⟩
  clear hop y5
  obtain ⟨s1, i1⟩ := o1.slice
  obtain ⟨s2, i2⟩ := o2.slice
  obtain rfl : ne' = ne := by omega
  obtain rfl : nb' = nb := by omega
  have i1l := i1.len
  have i2l := i2.len
  clear s1 s2 o1 o2 hsl hbl
  go_upto_region 34 with fail
  have hal : Below w6.heap.size w6 (w6.alloc (.cells #[.int .i64 fT, .int .i64 fC, .slice ea' ne' ce', .slice ba' nb' cb'] 24)) := (Below.refl _ _).alloc (Nat.le_refl _) _
  have f7 : (w6.alloc (.cells #[.int .i64 fT, .int .i64 fC, .slice ea' ne' ce', .slice ba' nb' cb'] 24)).heap[w6.heap.size]? = some (.cells #[.int .i64 fT, .int .i64 fC, .slice ea' ne' ce', .slice ba' nb' cb'] 24 (0, 0)) := heap_alloc_new _ _
  have j1 := i1.below hal
  have j2 := i2.below hal
  have hB7 : Below w5.heap.size w5 _ := hB.trans ((hb6.trans (hal.mono hb6.size)).mono hB.size)
  obtain ⟨fb, hfb⟩ : ∃ fb, w6.heap.size = fb := ⟨_, rfl⟩
  generalize (w6.alloc (.cells #[.int .i64 fT, .int .i64 fC, .slice ea' ne' ce', .slice ba' nb' cb'] 24)) = w7 at *
  rw [hfb] at f7 ⊢
  clear hfb hal i1 i2 hb6 hB hF
  have d0 : w7.cell? ⟨fb, 0, none⟩ = some (.int .i64 fT) := by simp [World.cell?, f7]
  have d1 : w7.cell? ⟨fb, 1, none⟩ = some (.int .i64 fC) := by simp [World.cell?, f7]
  have d2 : w7.cell? ⟨fb, 2, none⟩ = some (.slice ea' ne' ce') := by simp [World.cell?, f7]
  have d3 : w7.cell? ⟨fb, 3, none⟩ = some (.slice ba' nb' cb') := by simp [World.cell?, f7]
  have y5 := (hB7.cell (p := ⟨gp, j, none⟩) hgp).trans Z.out.1
  have y0 := (hB7.cell (p := ⟨gf, j * 4, none⟩) hgf).trans Z.out.2.1
  have y1 := (hB7.cell (p := ⟨gf, j * 4 + 1, none⟩) hgf).trans Z.out.2.2.1
  have y2 := (hB7.cell (p := ⟨gf, j * 4 + 2, none⟩) hgf).trans Z.out.2.2.2.1
  have y3 := (hB7.cell (p := ⟨gf, j * 4 + 3, none⟩) hgf).trans Z.out.2.2.2.2
  have hok7 := (GL.out.ok _ (HF5.out.mem _ HMU.out)).below (HF5.out.below hB7).bel
  have JJ := Lib.hid (And.intro j1 (And.intro j2 hok7))
  have F7 := Lib.hid f7
  have HB7 := Lib.hid hB7
  clear j1 j2 hok7 f7 hB7
  have hpNb : decide ((m : Int) < (p : Int) + (N : Int)) = false := decide_eq_false (by omega)
  go_cut [212] (fun s212 wx => s212 = .bool false ∧ ∃ t, wx = w7.drewN t)
  case first =>
    go_big_quiet (fail)
    go_wp2_with fail
    go_meet
    case rel => exact ⟨rfl, _, rfl⟩
  case rest =>
    clear y0 y1 y2 y3 y5 d0 d1 d2 d3
    obtain ⟨rfl, t1, rfl⟩ := hcut
    have b8 : Below w7.heap.size w7 (w7.drewN t1) := ⟨rfl, rfl, rfl, Nat.le_refl _, fun _ _ => rfl⟩
    have hB8 := HB7.out.trans (b8.mono HB7.out.size)
    have f8 := (b8.block fb (Array.getElem?_eq_some_iff.1 F7.out).1).trans F7.out
    have j18 := JJ.out.1.below b8
    have j28 := JJ.out.2.1.below b8
    have hok8 := JJ.out.2.2.below b8
    generalize w7.drewN t1 = w8 at *
    clear b8 JJ F7 HB7
    have d0 : w8.cell? ⟨fb, 0, none⟩ = some (.int .i64 fT) := by simp [World.cell?, f8]
    have d1 : w8.cell? ⟨fb, 1, none⟩ = some (.int .i64 fC) := by simp [World.cell?, f8]
    have d2 : w8.cell? ⟨fb, 2, none⟩ = some (.slice ea' ne' ce') := by simp [World.cell?, f8]
    have d3 : w8.cell? ⟨fb, 3, none⟩ = some (.slice ba' nb' cb') := by simp [World.cell?, f8]
    have y5 := (hB8.cell (p := ⟨gp, j, none⟩) hgp).trans Z.out.1
    have y0 := (hB8.cell (p := ⟨gf, j * 4, none⟩) hgf).trans Z.out.2.1
    have y1 := (hB8.cell (p := ⟨gf, j * 4 + 1, none⟩) hgf).trans Z.out.2.2.1
    have y2 := (hB8.cell (p := ⟨gf, j * 4 + 2, none⟩) hgf).trans Z.out.2.2.2.1
    have y3 := (hB8.cell (p := ⟨gf, j * 4 + 3, none⟩) hgf).trans Z.out.2.2.2.2
    have v1 : ∀ m, (convert 22 9 (.slice ea' ne' ce')).run Try.prog (w8.drewN m) = .ok (.string ⟨ext.toArray⟩) (w8.drewN m) := fun m => run_string_bytes _ _ _ 5 Try.underlying22 Try.underlying5 Try.underlying9 _ _ _ _ (j18.below ⟨rfl, rfl, rfl, Nat.le_refl _, fun _ _ => rfl⟩)
    have v2 : ∀ m, (convert 22 9 (.slice ea ne' ce)).run Try.prog (w8.drewN m) = .ok (.string ⟨ext.toArray⟩) (w8.drewN m) := fun m => run_string_bytes _ _ _ 5 Try.underlying22 Try.underlying5 Try.underlying9 _ _ _ _ (hok8.e.below ⟨rfl, rfl, rfl, Nat.le_refl _, fun _ _ => rfl⟩)
    have v3 : ∀ m, (convert 22 9 (.slice ba' nb' cb')).run Try.prog (w8.drewN m) = .ok (.string ⟨body.toArray⟩) (w8.drewN m) := fun m => run_string_bytes _ _ _ 5 Try.underlying22 Try.underlying5 Try.underlying9 _ _ _ _ (j28.below ⟨rfl, rfl, rfl, Nat.le_refl _, fun _ _ => rfl⟩)
    have v4 : ∀ m, (convert 22 9 (.slice ba nb' cg)).run Try.prog (w8.drewN m) = .ok (.string ⟨body.toArray⟩) (w8.drewN m) := fun m => run_string_bytes _ _ _ 5 Try.underlying22 Try.underlying5 Try.underlying9 _ _ _ _ (hok8.b.below ⟨rfl, rfl, rfl, Nat.le_refl _, fun _ _ => rfl⟩)
    have JJ := Lib.hid (And.intro j18 (And.intro j28 hok8))
    have F8 := Lib.hid f8
    have HB8 := Lib.hid hB8
    clear j18 j28 hok8 f8 hB8
    generalize hE1 : (⟨ext.toArray⟩ : ByteArray) = E1 at v1 v2
    generalize hE2 : (⟨body.toArray⟩ : ByteArray) = E2 at v3 v4
    clear hE1 hE2
    go_upto_region 36 with fail
    go_cut [31] (fun s31 wx => s31 = .bool true ∧ ∃ t, wx = w8.drewN t)
    case first =>
      go_big_quiet (fail)
      go_wp2_with fail
      go_meet
      case rel => exact ⟨rfl, _, rfl⟩
    case rest =>
      rename_i X1 X2 X3 X4 X5 X6 X7 X8 X9 X10 X11 X12 X13 X14 X15 X16 X17 X18 X19 X20 X21 X22 X23 X24 X25 X26 X27 X28 X29 X30 X31 X32 X33 X34 X35 X36 X37 X38 X39 X40 X41 X42 X43 X44 X45 X46 X47 X48 X49 X50 X51 X52 X53 X54 X55 X56 X57 X58 X59 X60 X61 X62 X63 X64 X65 X66 X67 X68 X69 X70 X71 X72 X73 X74 X75 X76 X77 X78 X79 X80 X81 X82 X83 X84 X85 X86 X87 X88 X89 X90 X91 X92 X93 X94 X95 X96 X97 X98 X99 X100 X101 X102 X103 X104 X105 X106 X107 X108 X109 X110 X111 X112 X113 X114 X115 X116 X117 X118 X119 X120 X121 X122 X123 X124 X125 X126 X127 X128 X129 X130 X131 X132 X133 X134 X135 X136 X137 X138 X139 X140 X141 X142 X143 X144 X145 X146 X147 X148 X149 X150 X151 X152 X153 X154 X155 X156 X157 X158 X159 X160 X161 X162 X163 X164 X165 X166 X167 X168 X169 X170 X171 X172 X173 X174 X175 X176 X177 X178 X179 X180 X181 X182 X183 X184 X185 X186 X187 X188 X189 X190 X191 X192 X193 X194 X195 X196 X197 X198 X199 X200 X201 X202 X203 X204 X205 X206 X207 X208 X209 X210 X211 X212 X213 X214 X215 X216 X217 X218 X219 X220 X221 X222 X223 X224 X225 X226 X227 X228 X229 X230 X231 X232 X233 X234 X235 X236 X237 X238 X239 X240 X241 X242 X243 X244 X245 X246 X247 X248 X249 X250 X251 X252 X253 X254 X255 X256 X257 X258 X259 X260 X261 X262 X263 X264 X265 X266 X267 X268 X269 X270 X271 X272 X273 X274 X275 X276 X277 X278 X279 X280 X281 X282 X283 X284 X285 X286 X287 X288 X289 X290 X291 X292 X293 X294 X295 X296 X297 X298 X299 X300 X301 X302
      revert w1 HB1 G3 GP GL l2l va wA Z2 Y1 Y2 u16 u17 u18 u19 u20 u21 u22 u23 u24 Z4 Z5 Z6 Z7 Z8 Z9 Z10 Z11 u51 Z12 Z13 Z14 Z15 Z16 Z17 Z18 Z19 Z20 Z21 Z22 Z23 Z24 Z25 Z26 Z27 Z28 Z29 Z30 Z31 Z32 Z33 Z34 Z35 Z36 Z37 Z38 Z39 Z40 Z41 Z42 Z43 Z44 Z45 Z46 Z47 Z48 Z49 Z50 Z51 Z52 Z53 Z54 Z55 Z56 Z57 Z58 Z59 Z60 Z61 Z62 Z63 Z64 Z65 Z66 Z67 Z68 Z69 Z70 Z71 Z72 Z73 Z74 Z75 Z76 Z77 Z78 Z79 Z80 Z81 Z82 Z83 Z84 Z85 Z86 Z87 Z88 Z89 Z90 Z91 Z92 Z93 Z94 Z95 Z96 Z97 Z98 Z99 Z100 Z101 Z102 Z103 Z104 Z105 Z106 Z107 Z108 Z109 Z110 Z111 Z112 Z113 Z114 Z115 Z116 Z117 Z118 Z119 Z120 i l P hi pa ca hcap m hle hll HM Z122 u43 u44 u45 u46 u47 u48 u49 u50 u52 u53 u54 u55 u56 u57 u58 u59 u60 u61 u62 u63 u64 u65 u66 u67 u68 u69 u70 u71 u72 u73 u74 u75 u76 u77 u78 u79 u80 u81 u82 u83 u84 u85 u86 u87 u88 u89 u90 u91 u92 u93 u94 u95 u96 u97 u98 u99 u100 u101 u102 u103 u104 u105 u106 u107 u108 u109 u110 u111 u112 u113 u114 u115 u116 u117 u118 u119 u120 u121 u122 u123 u124 u125 u126 u127 u128 u129 u130 u131 u132 u133 u134 u135 u136 u137 u138 u139 u140 u141 u142 u143 u144 u145 u146 u147 u148 u149 u150 u151 u152 u153 u154 u155 u156 u157 u158 u159 u160 Y3 w5 pb cb cp hpp2 cf hpf2 hMc M hMl q hPi hpf1 hpp1 hMM hmM HST HQ HLM Y4 Y5 wr u10 u27 u28 u29 u30 X1 u32 u33 u34 X2 u36 u37 X3 X4 X5 X6 X7 X8 X9 X10 X11 X12 X13 X14 X15 X16 X17 X18 X19 X20 X21 X22 X23 X24 X25 X26 X27 X28 X29 X30 X31 X32 X33 X34 X35 X36 X37 X38 X39 X40 X41 X42 X43 X44 X45 X46 X47 X48 X49 X50 X51 X52 X53 X54 X55 X56 X57 X58 X59 X60 X61 X62 X63 X64 X65 X66 X67 X68 X69 X70 X71 X72 X73 X74 X75 X76 X77 X78 X79 X80 X81 X82 X83 X84 X85 X86 X87 X88 X89 X90 X91 X92 X93 X94 X95 X96 X97 X98 X99 X100 X101 X102 X103 X104 X105 X106 X107 X108 X109 X110 X111 X112 X113 X114 X115 X116 X117 X118 X119 X120 X121 X122 X123 X124 X125 X126 X127 X128 X129 X130 X131 X132 X133 X134 X135 X136 X137 X138 X139 X140 X141 X142 X143 X144 X145 X146 X147 X148 j hj hlt gp HPP X149 hgp gf HPF HF Z121 Z123 HF5 X150 hgf p X fT fC ea ce ext ba cg body N hps hNl hN8 X151 X152 X153 hpN w6 ea' ne' ce' ba' nb' cb' X154 Z HMU HX H0 q7 hN' hN2 HNN i1l i2l fb w7 hpNb X155 X156 X157 X158 X159 X160 X161 X162 X163 X164 X165 X166 X167 X168 X169 X170 X171 X172 X173 X174 X175 X176 X177 X178 X179 X180 X181 X182 X183 X184 X185 X186 X187 X188 X189 X190 X191 X192 X193 X194 X195 X196 X197 X198 X199 X200 X201 X202 X203 X204 X205 X206 X207 X208 X209 X210 X211 X212 X213 X214 X215 X216 X217 X218 X219 X220 X221 X222 X223 X224 X225 X226 X227 X228 X229 X230 X231 X232 X233 X234 X235 X236 X237 X238 X239 X240 X241 X242 X243 X244 X245 X246 X247 X248 X249 X250 X251 X252 X253 X254 X255 X256 X257 X258 X259 X260 X261 X262 X263 X264 X265 X266 X267 X268 X269 X270 X271 X272 X273 X274 X275 X276 X277 X278 X279 X280 X281 X282 X283 X284 X285 X286 X287 X288 X289 X290 X291 X292 X293 X294 X295 X296 X297 X298 X299 X300 t1 w8 d0 d1 d2 d3 y5 y0 y1 y2 y3 JJ F8 HB8 E1 v1 v2 E2 v3 v4 X301 X302 wc u31 u35 u166 u167 u168 u169 u170 u171 u172 u173 u174 u175 u176 u177 u178 u179 u180 u181 u182 u183 u184 u185 u186 u187 u188 u189 u190 u191 u192 u193 u194 u195 u196 u197 u198 u199 u200 u201 u202 u203 u204 u205 u206 u207 u208 u209 u210 u211 u212 u213 u214 u215 u216 u217 u218 u219 u220 u221 u222 u223 u224 u225 u226 u227 u228 u229 u230 u231 u232 u233 u234 u235 u236 u237 u238 u239 u240 u241 u242 u243 u244 u245 u246 u247 u248 u249 u250 u251 u252 u253 u254 u255 u256 u257 u258 u259 u260 u261 u262 u263 u264 u265 u266 u267 u268 u269 u270 u271 u272 u273 u274 u275 u276 u277 u278 u279 u280 u281 u282 u283 u284 u285 u286 u287 u288 u289 u290 u291 u292 u293 u294 u295 u296 u297 u298 u299 u300 u301 u302 u303 u304 u305 u306 u307 u308 u309 u310 u311 hcut
      exact hR.out⟩
end Go.Proofs.Ytofdpccjpodbhaa
