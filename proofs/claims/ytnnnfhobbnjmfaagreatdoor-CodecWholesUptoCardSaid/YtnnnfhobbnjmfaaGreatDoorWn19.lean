/-
  Lemmas on the codec. Conditions: as each says.
-/
import Derived.Test.YtnnnfhobbnjmfaaGreatDoorWn18
import Derived.Test.YtnnnfhobbnjmfaaGreatDoorWn04
import Derived.Deep.DeepCutAuto
import Derived.Test.YtnnnfhobbnjmfaaGreatDoorWn06
import Derived.Test.YtnnnfhobbnjmfaaGreatDoorWn03
namespace Go.Proofs.YtnnnfhobbnjmfaaGreatDoor
open Go.RowKit
set_option linter.all false
set_option maxHeartbeats 40000000
set_option maxRecDepth 20000

attribute [local go_sem] Oper.semAt_some

theorem mrg_signed8_any (n:Int) (w:World) (h:IsU64 n):(Calls Tryz.prog 116 #[.int .u64 n,.int .i64 8] w fun e w'=>e = .returned (.bool (within2 128 n))∧w' = w) ∧
  (Calls Tryz.prog 116 #[.int .u64 n,.int .i64 16] w fun e w'=>e = .returned (.bool (within2 32768 n))∧w' = w) ∧
  (Calls Tryz.prog 116 #[.int .u64 n,.int .i64 32] w fun e w'=>e = .returned (.bool (within2 2147483648 n))∧w' = w):=by
 refine ⟨?_,?_,?_⟩
 all_goals
  have hw:=wrap_twoC h
  obtain ⟨t,ht⟩:∃ t,twoC n = t:=⟨_,rfl⟩
  rw [ht] at hw
 have HW2:=Lib.hid (show within2 128 n = decide (-128 ≤ t∧t < 128) from by unfold within2;rw [ht])
 rotate_left
 have HW2:=Lib.hid (show within2 32768 n = decide (-32768 ≤ t∧t < 32768) from by unfold within2;rw [ht])
 rotate_left
 have HW2:=Lib.hid (show within2 2147483648 n = decide (-2147483648 ≤ t∧t < 2147483648) from by unfold within2;rw [ht])
 rotate_left
 all_goals
  have htb:-9223372036854775808 ≤ t∧t ≤ 9223372036854775807:=by
   rw [← ht];unfold twoC;obtain ⟨h1,h2⟩:=h;split <;> omega
  obtain ⟨t0,t1⟩:=htb
  clear h ht
  go_enter Tryz.func116,Tryz.ntmps116
 focus
  by_cases c1:-128 ≤ t
  ·by_cases c2:t < 128
   ·go_wp2_with fail
    go_ret
    exact ⟨ret_boolV (by rw [HW2.out];simp;omega),rfl⟩
   ·go_wp2_with fail
    go_ret
    exact ⟨ret_boolV (by rw [HW2.out];simp;omega),rfl⟩
 rotate_left
 focus
  by_cases c1:-32768 ≤ t
  ·by_cases c2:t < 32768
   ·go_wp2_with fail
    go_ret
    exact ⟨ret_boolV (by rw [HW2.out];simp;omega),rfl⟩
   ·go_wp2_with fail
    go_ret
    exact ⟨ret_boolV (by rw [HW2.out];simp;omega),rfl⟩
 rotate_left
 focus
  by_cases c1:-2147483648 ≤ t
  ·by_cases c2:t < 2147483648
   ·go_wp2_with fail
    go_ret
    exact ⟨ret_boolV (by rw [HW2.out];simp;omega),rfl⟩
   ·go_wp2_with fail
    go_ret
    exact ⟨ret_boolV (by rw [HW2.out];simp;omega),rfl⟩
 rotate_left
 all_goals
  go_wp2_with fail
  go_ret
  exact ⟨ret_boolV (by rw [HW2.out];simp;omega),rfl⟩
def signed8_any:=fun n w h=>(mrg_signed8_any n w h).1
def signed16_any:=fun n w h=>(mrg_signed8_any n w h).2.1
def signed32_any:=fun n w h=>(mrg_signed8_any n w h).2.2
theorem number_any (v:V) (w:World) (s:Value) (h:VIn w v s) :
  Calls Tryz.prog 90 #[.agg #[.int .i64 v.kind,.int .u64 v.num,.string v.text,s,.int .i64 v.elem]] w fun e w'=>e = .returned (.bool (numOk v.kind v.num))∧Below w.heap.size w w':=by
 obtain ⟨p,c,hs,h1,h2,h3⟩:=h.slice
 obtain ⟨N,hN⟩:∃ N,v.list.length = N:=⟨_,rfl⟩
 rw [hN] at hs h1 h3
 subst hs
 unfold maxLen at h2
 obtain ⟨D,hD⟩:∃ D,numOk v.kind v.num = D:=⟨_,rfl⟩
 rw [hD]
 have hu:=h.wf.n
 have HU:=Lib.hid hu
 obtain ⟨u0,u1⟩:=hu
 clear h hN
 by_cases e1:v.kind = 1
 ·have HDX:=Lib.hid (show D = decide (v.num < 2) by rw [← hD,e1];simp [numOk])
  have E:=Lib.hid e1
  clear hD e1
  go_enter Tryz.func90,Tryz.ntmps90
  go_upto_region 1 with fail
  obtain ⟨w0,x,hw,hx,HB0,-,HOx,x0,x1,-,-,-⟩:=bxV w v (.slice p N c)
  rw [hw,hx]
  clear hw hx
  rw [E.out] at x0
  go_wp2_with fail
  all_goals
   go_ret
   first
    | exact ⟨by rw [HDX.out];rfl,HB0.out⟩
    | (refine ⟨ret_boolV ?_,HB0.out⟩;rw [HDX.out,Bool.eq_iff_iff];simp;omega)
 by_cases e2:v.kind = 2
 ·have HDX:=Lib.hid (show D = decide (v.num < 256) by rw [← hD,e2];simp [numOk])
  have E:=Lib.hid e2
  clear hD e2
  go_enter Tryz.func90,Tryz.ntmps90
  go_upto_region 1 with fail
  obtain ⟨w0,x,hw,hx,HB0,-,HOx,x0,x1,-,-,-⟩:=bxV w v (.slice p N c)
  rw [hw,hx]
  clear hw hx
  rw [E.out] at x0
  go_wp2_with fail
  all_goals
   go_ret
   first
    | exact ⟨by rw [HDX.out];rfl,HB0.out⟩
    | (refine ⟨ret_boolV ?_,HB0.out⟩;rw [HDX.out,Bool.eq_iff_iff];simp;omega)
 by_cases e3:v.kind = 3
 ·have HDX:=Lib.hid (show D = decide (v.num < 65536) by rw [← hD,e3];simp [numOk])
  have E:=Lib.hid e3
  clear hD e3
  go_enter Tryz.func90,Tryz.ntmps90
  go_upto_region 1 with fail
  obtain ⟨w0,x,hw,hx,HB0,-,HOx,x0,x1,-,-,-⟩:=bxV w v (.slice p N c)
  rw [hw,hx]
  clear hw hx
  rw [E.out] at x0
  go_wp2_with fail
  all_goals
   go_ret
   first
    | exact ⟨by rw [HDX.out];rfl,HB0.out⟩
    | (refine ⟨ret_boolV ?_,HB0.out⟩;rw [HDX.out,Bool.eq_iff_iff];simp;omega)
 by_cases e4:v.kind = 4
 ·have HDX:=Lib.hid (show D = decide (v.num < 4294967296) by rw [← hD,e4];simp [numOk])
  have E:=Lib.hid e4
  clear hD e4
  go_enter Tryz.func90,Tryz.ntmps90
  go_upto_region 1 with fail
  obtain ⟨w0,x,hw,hx,HB0,-,HOx,x0,x1,-,-,-⟩:=bxV w v (.slice p N c)
  rw [hw,hx]
  clear hw hx
  rw [E.out] at x0
  go_wp2_with fail
  all_goals
   go_ret
   first
    | exact ⟨by rw [HDX.out];rfl,HB0.out⟩
    | (refine ⟨ret_boolV ?_,HB0.out⟩;rw [HDX.out,Bool.eq_iff_iff];simp;omega)
 by_cases e10:v.kind = 10
 ·have HDX:=Lib.hid (show D = decide (v.num < 4294967296) by rw [← hD,e10];simp [numOk])
  have E:=Lib.hid e10
  clear hD e10
  go_enter Tryz.func90,Tryz.ntmps90
  go_upto_region 1 with fail
  obtain ⟨w0,x,hw,hx,HB0,-,HOx,x0,x1,-,-,-⟩:=bxV w v (.slice p N c)
  rw [hw,hx]
  clear hw hx
  rw [E.out] at x0
  go_wp2_with fail
  all_goals
   go_ret
   first
    | exact ⟨by rw [HDX.out];rfl,HB0.out⟩
    | (refine ⟨ret_boolV ?_,HB0.out⟩;rw [HDX.out,Bool.eq_iff_iff];simp;omega)
 by_cases e12:v.kind = 12
 ·have HDX:=Lib.hid (show D = decide (v.num < 4294967296) by rw [← hD,e12];simp [numOk])
  have E:=Lib.hid e12
  clear hD e12
  go_enter Tryz.func90,Tryz.ntmps90
  go_upto_region 1 with fail
  obtain ⟨w0,x,hw,hx,HB0,-,HOx,x0,x1,-,-,-⟩:=bxV w v (.slice p N c)
  rw [hw,hx]
  clear hw hx
  rw [E.out] at x0
  go_wp2_with fail
  all_goals
   go_ret
   first
    | exact ⟨by rw [HDX.out];rfl,HB0.out⟩
    | (refine ⟨ret_boolV ?_,HB0.out⟩;rw [HDX.out,Bool.eq_iff_iff];simp;omega)
 by_cases e6:v.kind = 6
 ·have HDX:=Lib.hid (show D = within2 128 v.num by rw [← hD,e6];simp [numOk])
  have E:=Lib.hid e6
  clear hD e6
  go_enter Tryz.func90,Tryz.ntmps90
  go_upto_region 1 with fail
  obtain ⟨w0,x,hw,hx,HB0,-,HOx,x0,x1,-,-,-⟩:=bxV w v (.slice p N c)
  rw [hw,hx]
  clear hw hx
  rw [E.out] at x0
  have hc:=signed8_any v.num w0 HU.out
  go_wp2_with fail
  refine hc.mono ?_
  clear hc
  rintro e w1 ⟨rfl,rfl⟩
  go_wp2_with fail
  go_ret
  refine ⟨ret_boolV ?_,HB0.out⟩
  rw [HDX.out]
 by_cases e7:v.kind = 7
 ·have HDX:=Lib.hid (show D = within2 32768 v.num by rw [← hD,e7];simp [numOk])
  have E:=Lib.hid e7
  clear hD e7
  go_enter Tryz.func90,Tryz.ntmps90
  go_upto_region 1 with fail
  obtain ⟨w0,x,hw,hx,HB0,-,HOx,x0,x1,-,-,-⟩:=bxV w v (.slice p N c)
  rw [hw,hx]
  clear hw hx
  rw [E.out] at x0
  have hc:=signed16_any v.num w0 HU.out
  go_wp2_with fail
  refine hc.mono ?_
  clear hc
  rintro e w1 ⟨rfl,rfl⟩
  go_wp2_with fail
  go_ret
  refine ⟨ret_boolV ?_,HB0.out⟩
  rw [HDX.out]
 by_cases e8:v.kind = 8
 ·have HDX:=Lib.hid (show D = within2 2147483648 v.num by rw [← hD,e8];simp [numOk])
  have E:=Lib.hid e8
  clear hD e8
  go_enter Tryz.func90,Tryz.ntmps90
  go_upto_region 1 with fail
  obtain ⟨w0,x,hw,hx,HB0,-,HOx,x0,x1,-,-,-⟩:=bxV w v (.slice p N c)
  rw [hw,hx]
  clear hw hx
  rw [E.out] at x0
  have hc:=signed32_any v.num w0 HU.out
  go_wp2_with fail
  refine hc.mono ?_
  clear hc
  rintro e w1 ⟨rfl,rfl⟩
  go_wp2_with fail
  go_ret
  refine ⟨ret_boolV ?_,HB0.out⟩
  rw [HDX.out]
 by_cases e15:v.kind = 15
 ·have HDX:=Lib.hid (show D = decide (v.num < 55296 ∨ (57343 < v.num∧v.num ≤ 1114111)) by rw [← hD,e15];simp [numOk])
  have E:=Lib.hid e15
  clear hD e15
  go_enter Tryz.func90,Tryz.ntmps90
  go_upto_region 1 with fail
  obtain ⟨w0,x,hw,hx,HB0,-,HOx,x0,x1,-,-,-⟩:=bxV w v (.slice p N c)
  rw [hw,hx]
  clear hw hx
  rw [E.out] at x0
  go_wp2_with fail
  all_goals
   go_ret
   first
    | exact ⟨by rw [HDX.out];rfl,HB0.out⟩
    | (refine ⟨ret_boolV ?_,HB0.out⟩;rw [HDX.out,Bool.eq_iff_iff];simp;omega)
 have HDX:=Lib.hid (show D = true by rw [← hD];simp [numOk,e1,e2,e3,e4,e10,e12,e6,e7,e8,e15])
 have m1:(v.kind == 1) = false:=by simpa using e1
 have m2:(v.kind == 2) = false:=by simpa using e2
 have m3:(v.kind == 3) = false:=by simpa using e3
 have m4:(v.kind == 4) = false:=by simpa using e4
 have m10:(v.kind == 10) = false:=by simpa using e10
 have m12:(v.kind == 12) = false:=by simpa using e12
 have m6:(v.kind == 6) = false:=by simpa using e6
 have m7:(v.kind == 7) = false:=by simpa using e7
 have m8:(v.kind == 8) = false:=by simpa using e8
 have m15:(v.kind == 15) = false:=by simpa using e15
 clear hD e1 e2 e3 e4 e10 e12 e6 e7 e8 e15
 go_enter Tryz.func90,Tryz.ntmps90
 go_upto_region 1 with fail
 obtain ⟨w0,x,hw,hx,HB0,-,HOx,x0,x1,-,-,-⟩:=bxV w v (.slice p N c)
 rw [hw,hx]
 clear hw hx
 go_wp2_with fail
 go_ret
 exact ⟨by rw [HDX.out];rfl,HB0.out⟩
theorem spelled_any (v:V) (w:World) (s:Value) (h:VIn w v s) (hts:v.text.size ≤ 9223372036854775800) :
  Calls Tryz.prog 91 #[.agg #[.int .i64 v.kind,.int .u64 v.num,.string v.text,s,.int .i64 v.elem]] w fun e w'=>e = .returned (.bool (textOk v.kind v.text))∧Below w.heap.size w w':=by
 obtain ⟨p,c,hs,h1,h2,h3⟩:=h.slice
 obtain ⟨N,hN⟩:∃ N,v.list.length = N:=⟨_,rfl⟩
 rw [hN] at hs h1 h3
 subst hs
 unfold maxLen at h2
 obtain ⟨D,hD⟩:∃ D,textOk v.kind v.text = D:=⟨_,rfl⟩
 rw [hD]
 have HTS:=Lib.hid hts
 have hts2:v.text.size ≤ 9223372036854775807:=by omega
 clear h hN hts
 by_cases e14:v.kind = 14
 ·have HDX:=Lib.hid (show D = decide (v.text.size = 16) by rw [← hD,e14];simp [textOk])
  have E:=Lib.hid e14
  clear hD e14
  go_enter Tryz.func91,Tryz.ntmps91
  go_upto_region 1 with fail
  obtain ⟨w0,x,hw,hx,HB0,-,HOx,x0,-,x2,-,-⟩:=bxV w v (.slice p N c)
  rw [hw,hx]
  clear hw hx
  rw [E.out] at x0
  have hsz:((v.text.size:Int) == 16) = decide (v.text.size = 16):=by rw [Bool.eq_iff_iff];simp;omega
  go_wp2_with fail
  all_goals
   go_ret
   first
    | exact ⟨by rw [HDX.out];rfl,HB0.out⟩
    | (refine ⟨ret_boolV ?_,HB0.out⟩;rw [HDX.out,Bool.eq_iff_iff];simp;try omega)
 by_cases e17:v.kind = 17
 ·have HDX:=Lib.hid (show D = decide (v.text.size = 16) by rw [← hD,e17];simp [textOk])
  have E:=Lib.hid e17
  clear hD e17
  go_enter Tryz.func91,Tryz.ntmps91
  go_upto_region 1 with fail
  obtain ⟨w0,x,hw,hx,HB0,-,HOx,x0,-,x2,-,-⟩:=bxV w v (.slice p N c)
  rw [hw,hx]
  clear hw hx
  rw [E.out] at x0
  have hsz:((v.text.size:Int) == 16) = decide (v.text.size = 16):=by rw [Bool.eq_iff_iff];simp;omega
  go_wp2_with fail
  all_goals
   go_ret
   first
    | exact ⟨by rw [HDX.out];rfl,HB0.out⟩
    | (refine ⟨ret_boolV ?_,HB0.out⟩;rw [HDX.out,Bool.eq_iff_iff];simp;try omega)
 by_cases e19:v.kind = 19
 ·have HDX:=Lib.hid (show D = decide (utf8S v.text < 0) by rw [← hD,e19];simp [textOk])
  have E:=Lib.hid e19
  clear hD e19
  go_enter Tryz.func91,Tryz.ntmps91
  go_upto_region 1 with fail
  obtain ⟨w0,x,hw,hx,HB0,-,HOx,x0,-,x2,-,-⟩:=bxV w v (.slice p N c)
  rw [hw,hx]
  clear hw hx
  rw [E.out] at x0
  have hc:=qtext_any v.text w0 HTS.out
  go_wp2_with fail
  refine hc.mono ?_
  clear hc
  rintro e w1 ⟨rfl,rfl⟩
  go_wp2_with fail
  go_ret
  exact ⟨by rw [HDX.out];rfl,HB0.out⟩
 by_cases e20:v.kind = 20
 ·have HDX:=Lib.hid (show D = decide (asciiS v.text < 0) by rw [← hD,e20];simp [textOk])
  have E:=Lib.hid e20
  clear hD e20
  go_enter Tryz.func91,Tryz.ntmps91
  go_upto_region 1 with fail
  obtain ⟨w0,x,hw,hx,HB0,-,HOx,x0,-,x2,-,-⟩:=bxV w v (.slice p N c)
  rw [hw,hx]
  clear hw hx
  rw [E.out] at x0
  have hc:=plain_any v.text w0 HTS.out
  go_wp2_with fail
  refine hc.mono ?_
  clear hc
  rintro e w1 ⟨rfl,rfl⟩
  go_wp2_with fail
  go_ret
  exact ⟨by rw [HDX.out];rfl,HB0.out⟩
 have HDX:=Lib.hid (show D = true by rw [← hD];simp [textOk,e14,e17,e19,e20])
 have m14:(v.kind == 14) = false:=by simpa using e14
 have m17:(v.kind == 17) = false:=by simpa using e17
 have m19:(v.kind == 19) = false:=by simpa using e19
 have m20:(v.kind == 20) = false:=by simpa using e20
 clear hD e14 e17 e19 e20
 go_enter Tryz.func91,Tryz.ntmps91
 go_upto_region 1 with fail
 obtain ⟨w0,x,hw,hx,HB0,-,HOx,x0,-,-,-,-⟩:=bxV w v (.slice p N c)
 rw [hw,hx]
 clear hw hx
 go_wp2_with fail
 go_ret
 exact ⟨by rw [HDX.out];rfl,HB0.out⟩
def rN (k:Int):Bool:=decide (1 ≤ k∧k ≤ 16∧k ≠ 14)
def rT (k:Int):Bool:=decide (k = 14 ∨ (17 ≤ k∧k ≤ 20))
def rP (k:Int):Bool:=decide (21 ≤ k)
def rextraV (v:V):Bool:=(!rN v.kind && !decide (v.num = 0)) || (!rT v.kind && !decide (v.text = ⟨#[]⟩)) || (!rP v.kind && decide (0 < v.list.length)) || (!decide (v.kind = 23) && !decide (v.elem = 0))
theorem rextra_eq (v:V) (h0:0 ≤ v.kind) (h1:v.kind ≤ 24):rextraV v = extraV v:=by
 have e1:rN v.kind = hasN v.kind:=by unfold rN hasN;rw [decide_eq_decide];omega
 have e2:rT v.kind = hasT v.kind:=by unfold rT hasT;rw [decide_eq_decide];omega
 have e3:rP v.kind = hasP v.kind:=by unfold rP hasP;rw [decide_eq_decide];omega
 unfold rextraV extraV
 rw [e1,e2,e3]
theorem rextra_any (v:V) (w:World) (s:Value) (h:VIn w v s) :
  Calls Tryz.prog 89 #[.agg #[.int .i64 v.kind,.int .u64 v.num,.string v.text,s,.int .i64 v.elem]] w fun e w'=>e = .returned (.bool (rextraV v))∧Below w.heap.size w w':=by
 obtain ⟨p,c,hs,h1,h2,h3⟩:=h.slice
 obtain ⟨N,hN⟩:∃ N,v.list.length = N:=⟨_,rfl⟩
 rw [hN] at hs h1 h3
 subst hs
 unfold maxLen at h2
 obtain ⟨D,hD⟩:∃ D,rextraV v = D:=⟨_,rfl⟩
 rw [hD]
 unfold rextraV at hD
 rw [hN] at hD
 obtain ⟨b1,hb1⟩:∃ b,rN v.kind = b:=⟨_,rfl⟩
 obtain ⟨b2,hb2⟩:∃ b,rT v.kind = b:=⟨_,rfl⟩
 obtain ⟨b3,hb3⟩:∃ b,rP v.kind = b:=⟨_,rfl⟩
 rw [hb1,hb2,hb3] at hD
 obtain ⟨z1,hz1⟩:∃ b,decide (v.num = 0) = b:=⟨_,rfl⟩
 obtain ⟨z2,hz2⟩:∃ b,decide (v.text = ⟨#[]⟩) = b:=⟨_,rfl⟩
 obtain ⟨z3,hz3⟩:∃ b,decide (0 < N) = b:=⟨_,rfl⟩
 obtain ⟨z4,hz4⟩:∃ b,decide (v.kind = 23) = b:=⟨_,rfl⟩
 obtain ⟨z5,hz5⟩:∃ b,decide (v.elem = 0) = b:=⟨_,rfl⟩
 rw [hz1,hz2,hz3,hz4,hz5] at hD
 have f1:(v.num == 0) = z1:=by rw [← hz1];rfl
 have f2:(v.text.toList == []) = z2:=by rw [emp_t];exact hz2
 have f3:decide ((0:Int) < N) = z3:=by rw [← hz3,decide_eq_decide];omega
 have f3n:decide (0 < N) = z3:=hz3
 have f4:(v.kind == 23) = z4:=by rw [← hz4];rfl
 have f5:(v.elem == 0) = z5:=by rw [← hz5];rfl
 have g1:(v.num != 0) = !z1:=by rw [← f1];rfl
 have g2:(v.text.toList != []) = !z2:=by rw [← f2];rfl
 have g4:(v.kind != 23) = !z4:=by rw [← f4];rfl
 have g5:(v.elem != 0) = !z5:=by rw [← f5];rfl
 have HBB:=Lib.hid (And.intro hb1 (And.intro hb2 hb3))
 have HF:=Lib.hid (And.intro f1 (And.intro f2 (And.intro f3 (And.intro f4 (And.intro f5 (And.intro g1 (And.intro g2 (And.intro g4 (And.intro g5 f3n)))))))))
 have HD:=Lib.hid hD
 clear hD hb1 hb2 hb3 h hN hz1 hz2 hz3 hz4 hz5 f1 f2 f3 f4 f5 g1 g2 g4 g5 f3n
 go_enter Tryz.func89,Tryz.ntmps89
 go_upto_region 1 with fail
 obtain ⟨w0,x,hw,hx,HB0,-,HOx,x0,x1,x2,x3,x4⟩:=bxV w v (.slice p N c)
 rw [hw,hx]
 clear hw hx
 go_upto_region 1 with fail
 go_cut [3] (fun sv wx=>w0 = wx∧sv = .bool b1)
 case first =>
  by_cases d3:1 ≤ v.kind
  ·
   by_cases d2:v.kind ≤ 16
   ·
    by_cases c14:v.kind = 14
    ·have c14b:(v.kind == 14) = true:=by simp [c14]
     have c14n:(v.kind != 14) = false:=by simp [c14]
     have C14:=Lib.hid c14
     clear c14
     first
      | (exfalso;have q14:=C14.out;omega)
      | (go_wp2_with fail;go_meet;exact ⟨rfl,by rw [← HBB.out.1];unfold rN;have q14:=C14.out;simp;omega⟩)
    ·have c14b:(v.kind == 14) = false:=by simp [c14]
     have c14n:(v.kind != 14) = true:=by simp [c14]
     have C14:=Lib.hid c14
     clear c14
     first
      | (exfalso;have q14:=C14.out;omega)
      | (go_wp2_with fail;go_meet;exact ⟨rfl,by rw [← HBB.out.1];unfold rN;have q14:=C14.out;simp;omega⟩)
   ·
    by_cases c14:v.kind = 14
    ·have c14b:(v.kind == 14) = true:=by simp [c14]
     have c14n:(v.kind != 14) = false:=by simp [c14]
     have C14:=Lib.hid c14
     clear c14
     first
      | (exfalso;have q14:=C14.out;omega)
      | (go_wp2_with fail;go_meet;exact ⟨rfl,by rw [← HBB.out.1];unfold rN;have q14:=C14.out;simp;omega⟩)
    ·have c14b:(v.kind == 14) = false:=by simp [c14]
     have c14n:(v.kind != 14) = true:=by simp [c14]
     have C14:=Lib.hid c14
     clear c14
     first
      | (exfalso;have q14:=C14.out;omega)
      | (go_wp2_with fail;go_meet;exact ⟨rfl,by rw [← HBB.out.1];unfold rN;have q14:=C14.out;simp;omega⟩)
  ·
   by_cases d2:v.kind ≤ 16
   ·
    by_cases c14:v.kind = 14
    ·have c14b:(v.kind == 14) = true:=by simp [c14]
     have c14n:(v.kind != 14) = false:=by simp [c14]
     have C14:=Lib.hid c14
     clear c14
     first
      | (exfalso;have q14:=C14.out;omega)
      | (go_wp2_with fail;go_meet;exact ⟨rfl,by rw [← HBB.out.1];unfold rN;have q14:=C14.out;simp;omega⟩)
    ·have c14b:(v.kind == 14) = false:=by simp [c14]
     have c14n:(v.kind != 14) = true:=by simp [c14]
     have C14:=Lib.hid c14
     clear c14
     first
      | (exfalso;have q14:=C14.out;omega)
      | (go_wp2_with fail;go_meet;exact ⟨rfl,by rw [← HBB.out.1];unfold rN;have q14:=C14.out;simp;omega⟩)
   ·
    by_cases c14:v.kind = 14
    ·have c14b:(v.kind == 14) = true:=by simp [c14]
     have c14n:(v.kind != 14) = false:=by simp [c14]
     have C14:=Lib.hid c14
     clear c14
     first
      | (exfalso;have q14:=C14.out;omega)
      | (go_wp2_with fail;go_meet;exact ⟨rfl,by rw [← HBB.out.1];unfold rN;have q14:=C14.out;simp;omega⟩)
    ·have c14b:(v.kind == 14) = false:=by simp [c14]
     have c14n:(v.kind != 14) = true:=by simp [c14]
     have C14:=Lib.hid c14
     clear c14
     first
      | (exfalso;have q14:=C14.out;omega)
      | (go_wp2_with fail;go_meet;exact ⟨rfl,by rw [← HBB.out.1];unfold rN;have q14:=C14.out;simp;omega⟩)
 case rest =>
 obtain ⟨rfl,rfl⟩:=hcut
 go_upto_region 2 with fail
 go_cut [4] (fun sv wx=>w0 = wx∧sv = .bool b2)
 case first =>
  by_cases c14:v.kind = 14
  ·have c14b:(v.kind == 14) = true:=by simp [c14]
   have c14n:(v.kind != 14) = false:=by simp [c14]
   have C14:=Lib.hid c14
   clear c14
   by_cases d2:17 ≤ v.kind
   ·
    by_cases d1:v.kind ≤ 20
    ·
     first
      | (exfalso;have q14:=C14.out;omega)
      | (go_wp2_with fail;go_meet;exact ⟨rfl,by rw [← HBB.out.2.1];unfold rT;have q14:=C14.out;simp;omega⟩)
    ·
     first
      | (exfalso;have q14:=C14.out;omega)
      | (go_wp2_with fail;go_meet;exact ⟨rfl,by rw [← HBB.out.2.1];unfold rT;have q14:=C14.out;simp;omega⟩)
   ·
    by_cases d1:v.kind ≤ 20
    ·
     first
      | (exfalso;have q14:=C14.out;omega)
      | (go_wp2_with fail;go_meet;exact ⟨rfl,by rw [← HBB.out.2.1];unfold rT;have q14:=C14.out;simp;omega⟩)
    ·
     first
      | (exfalso;have q14:=C14.out;omega)
      | (go_wp2_with fail;go_meet;exact ⟨rfl,by rw [← HBB.out.2.1];unfold rT;have q14:=C14.out;simp;omega⟩)
  ·have c14b:(v.kind == 14) = false:=by simp [c14]
   have c14n:(v.kind != 14) = true:=by simp [c14]
   have C14:=Lib.hid c14
   clear c14
   by_cases d2:17 ≤ v.kind
   ·
    by_cases d1:v.kind ≤ 20
    ·
     first
      | (exfalso;have q14:=C14.out;omega)
      | (go_wp2_with fail;go_meet;exact ⟨rfl,by rw [← HBB.out.2.1];unfold rT;have q14:=C14.out;simp;omega⟩)
    ·
     first
      | (exfalso;have q14:=C14.out;omega)
      | (go_wp2_with fail;go_meet;exact ⟨rfl,by rw [← HBB.out.2.1];unfold rT;have q14:=C14.out;simp;omega⟩)
   ·
    by_cases d1:v.kind ≤ 20
    ·
     first
      | (exfalso;have q14:=C14.out;omega)
      | (go_wp2_with fail;go_meet;exact ⟨rfl,by rw [← HBB.out.2.1];unfold rT;have q14:=C14.out;simp;omega⟩)
    ·
     first
      | (exfalso;have q14:=C14.out;omega)
      | (go_wp2_with fail;go_meet;exact ⟨rfl,by rw [← HBB.out.2.1];unfold rT;have q14:=C14.out;simp;omega⟩)
 case rest =>
 obtain ⟨rfl,rfl⟩:=hcut
 go_upto_region 3 with fail
 go_cut [5] (fun sv wx=>w0 = wx∧sv = .bool b3)
 case first =>
  by_cases d1:21 ≤ v.kind
  ·
   first
    | (exfalso;omega)
    | (go_wp2_with fail;go_meet;exact ⟨rfl,by rw [← HBB.out.2.2];unfold rP;simp;omega⟩)
  ·
   first
    | (exfalso;omega)
    | (go_wp2_with fail;go_meet;exact ⟨rfl,by rw [← HBB.out.2.2];unfold rP;simp;omega⟩)
 case rest =>
 obtain ⟨rfl,rfl⟩:=hcut
 obtain ⟨f1,f2,f3,f4,f5,g1,g2,g4,g5,f3n⟩:=HF.out
 have HD2:=HD.out
 cases b1
 ·cases z1
  ·
   simp only [Bool.not_false,Bool.true_or,Bool.and_self] at HD2
   subst HD2
   try simp only [Bool.not_false] at g1
   try simp only [Bool.not_true,Bool.not_false] at g2
   try simp only [Bool.not_true,Bool.not_false] at g4
   try simp only [Bool.not_true,Bool.not_false] at g5
   go_wp2_with fail
   all_goals
    go_ret
    exact ⟨rfl,HB0.out⟩
  ·
   cases b2
   ·cases z2
    ·
     simp only [Bool.not_true,Bool.not_false,Bool.or_true,Bool.true_or,Bool.and_false,Bool.and_self] at HD2
     subst HD2
     try simp only [Bool.not_true] at g1
     try simp only [Bool.not_false] at g2
     try simp only [Bool.not_true,Bool.not_false] at g4
     try simp only [Bool.not_true,Bool.not_false] at g5
     go_wp2_with fail
     all_goals
      go_ret
      exact ⟨rfl,HB0.out⟩
    ·
     cases b3
     ·cases z3
      ·
       cases z4
       ·cases z5
        ·
         simp only [Bool.not_true,Bool.not_false,Bool.or_true,Bool.and_false,Bool.or_self,Bool.and_self] at HD2
         subst HD2
         try simp only [Bool.not_true] at g1
         try simp only [Bool.not_true] at g2
         try simp only [Bool.not_false] at g4
         try simp only [Bool.not_false] at g5
         go_wp2_with fail
         all_goals
          go_ret
          exact ⟨rfl,HB0.out⟩
        ·
         simp only [Bool.not_true,Bool.not_false,Bool.and_false,Bool.or_self] at HD2
         subst HD2
         try simp only [Bool.not_true] at g1
         try simp only [Bool.not_true] at g2
         try simp only [Bool.not_false] at g4
         try simp only [Bool.not_true] at g5
         go_wp2_with fail
         all_goals
          go_ret
          exact ⟨rfl,HB0.out⟩
       ·
        simp only [Bool.not_true,Bool.not_false,Bool.false_and,Bool.and_false,Bool.or_self] at HD2
        subst HD2
        try simp only [Bool.not_true] at g1
        try simp only [Bool.not_true] at g2
        try simp only [Bool.not_true] at g4
        try simp only [Bool.not_true,Bool.not_false] at g5
        go_wp2_with fail
        all_goals
         go_ret
         exact ⟨rfl,HB0.out⟩
      ·
       simp only [Bool.not_true,Bool.not_false,Bool.or_true,Bool.true_or,Bool.and_false,Bool.or_self,Bool.and_self] at HD2
       subst HD2
       try simp only [Bool.not_true] at g1
       try simp only [Bool.not_true] at g2
       try simp only [Bool.not_true,Bool.not_false] at g4
       try simp only [Bool.not_true,Bool.not_false] at g5
       go_wp2_with fail
       all_goals
        go_ret
        exact ⟨rfl,HB0.out⟩
     ·
      cases z4
      ·cases z5
       ·
        simp only [Bool.not_true,Bool.not_false,Bool.false_and,Bool.or_true,Bool.and_false,Bool.or_self,Bool.and_self] at HD2
        subst HD2
        try simp only [Bool.not_true] at g1
        try simp only [Bool.not_true] at g2
        try simp only [Bool.not_false] at g4
        try simp only [Bool.not_false] at g5
        go_wp2_with fail
        all_goals
         go_ret
         exact ⟨rfl,HB0.out⟩
       ·
        simp only [Bool.not_true,Bool.not_false,Bool.false_and,Bool.and_false,Bool.or_self] at HD2
        subst HD2
        try simp only [Bool.not_true] at g1
        try simp only [Bool.not_true] at g2
        try simp only [Bool.not_false] at g4
        try simp only [Bool.not_true] at g5
        go_wp2_with fail
        all_goals
         go_ret
         exact ⟨rfl,HB0.out⟩
      ·
       simp only [Bool.not_true,Bool.not_false,Bool.false_and,Bool.and_false,Bool.or_self] at HD2
       subst HD2
       try simp only [Bool.not_true] at g1
       try simp only [Bool.not_true] at g2
       try simp only [Bool.not_true] at g4
       try simp only [Bool.not_true,Bool.not_false] at g5
       go_wp2_with fail
       all_goals
        go_ret
        exact ⟨rfl,HB0.out⟩
   ·
    cases b3
    ·cases z3
     ·
      cases z4
      ·cases z5
       ·
        simp only [Bool.not_true,Bool.not_false,Bool.false_and,Bool.or_true,Bool.and_false,Bool.or_self,Bool.and_self] at HD2
        subst HD2
        try simp only [Bool.not_true] at g1
        try simp only [Bool.not_true,Bool.not_false] at g2
        try simp only [Bool.not_false] at g4
        try simp only [Bool.not_false] at g5
        go_wp2_with fail
        all_goals
         go_ret
         exact ⟨rfl,HB0.out⟩
       ·
        simp only [Bool.not_true,Bool.not_false,Bool.false_and,Bool.and_false,Bool.or_self] at HD2
        subst HD2
        try simp only [Bool.not_true] at g1
        try simp only [Bool.not_true,Bool.not_false] at g2
        try simp only [Bool.not_false] at g4
        try simp only [Bool.not_true] at g5
        go_wp2_with fail
        all_goals
         go_ret
         exact ⟨rfl,HB0.out⟩
      ·
       simp only [Bool.not_true,Bool.not_false,Bool.false_and,Bool.and_false,Bool.or_self] at HD2
       subst HD2
       try simp only [Bool.not_true] at g1
       try simp only [Bool.not_true,Bool.not_false] at g2
       try simp only [Bool.not_true] at g4
       try simp only [Bool.not_true,Bool.not_false] at g5
       go_wp2_with fail
       all_goals
        go_ret
        exact ⟨rfl,HB0.out⟩
     ·
      simp only [Bool.not_true,Bool.not_false,Bool.false_and,Bool.or_true,Bool.true_or,Bool.and_false,Bool.or_self,Bool.and_self] at HD2
      subst HD2
      try simp only [Bool.not_true] at g1
      try simp only [Bool.not_true,Bool.not_false] at g2
      try simp only [Bool.not_true,Bool.not_false] at g4
      try simp only [Bool.not_true,Bool.not_false] at g5
      go_wp2_with fail
      all_goals
       go_ret
       exact ⟨rfl,HB0.out⟩
    ·
     cases z4
     ·cases z5
      ·
       simp only [Bool.not_true,Bool.not_false,Bool.false_and,Bool.or_true,Bool.and_false,Bool.or_self,Bool.and_self] at HD2
       subst HD2
       try simp only [Bool.not_true] at g1
       try simp only [Bool.not_true,Bool.not_false] at g2
       try simp only [Bool.not_false] at g4
       try simp only [Bool.not_false] at g5
       go_wp2_with fail
       all_goals
        go_ret
        exact ⟨rfl,HB0.out⟩
      ·
       simp only [Bool.not_true,Bool.not_false,Bool.false_and,Bool.and_false,Bool.or_self] at HD2
       subst HD2
       try simp only [Bool.not_true] at g1
       try simp only [Bool.not_true,Bool.not_false] at g2
       try simp only [Bool.not_false] at g4
       try simp only [Bool.not_true] at g5
       go_wp2_with fail
       all_goals
        go_ret
        exact ⟨rfl,HB0.out⟩
     ·
      simp only [Bool.not_true,Bool.not_false,Bool.false_and,Bool.and_false,Bool.or_self] at HD2
      subst HD2
      try simp only [Bool.not_true] at g1
      try simp only [Bool.not_true,Bool.not_false] at g2
      try simp only [Bool.not_true] at g4
      try simp only [Bool.not_true,Bool.not_false] at g5
      go_wp2_with fail
      all_goals
       go_ret
       exact ⟨rfl,HB0.out⟩
 ·
  cases b2
  ·cases z2
   ·
    simp only [Bool.not_true,Bool.not_false,Bool.false_and,Bool.or_true,Bool.true_or,Bool.and_self] at HD2
    subst HD2
    try simp only [Bool.not_true,Bool.not_false] at g1
    try simp only [Bool.not_false] at g2
    try simp only [Bool.not_true,Bool.not_false] at g4
    try simp only [Bool.not_true,Bool.not_false] at g5
    go_wp2_with fail
    all_goals
     go_ret
     exact ⟨rfl,HB0.out⟩
   ·
    cases b3
    ·cases z3
     ·
      cases z4
      ·cases z5
       ·
        simp only [Bool.not_true,Bool.not_false,Bool.false_and,Bool.or_true,Bool.and_false,Bool.or_self,Bool.and_self] at HD2
        subst HD2
        try simp only [Bool.not_true,Bool.not_false] at g1
        try simp only [Bool.not_true] at g2
        try simp only [Bool.not_false] at g4
        try simp only [Bool.not_false] at g5
        go_wp2_with fail
        all_goals
         go_ret
         exact ⟨rfl,HB0.out⟩
       ·
        simp only [Bool.not_true,Bool.not_false,Bool.false_and,Bool.and_false,Bool.or_self] at HD2
        subst HD2
        try simp only [Bool.not_true,Bool.not_false] at g1
        try simp only [Bool.not_true] at g2
        try simp only [Bool.not_false] at g4
        try simp only [Bool.not_true] at g5
        go_wp2_with fail
        all_goals
         go_ret
         exact ⟨rfl,HB0.out⟩
      ·
       simp only [Bool.not_true,Bool.not_false,Bool.false_and,Bool.and_false,Bool.or_self] at HD2
       subst HD2
       try simp only [Bool.not_true,Bool.not_false] at g1
       try simp only [Bool.not_true] at g2
       try simp only [Bool.not_true] at g4
       try simp only [Bool.not_true,Bool.not_false] at g5
       go_wp2_with fail
       all_goals
        go_ret
        exact ⟨rfl,HB0.out⟩
     ·
      simp only [Bool.not_true,Bool.not_false,Bool.false_and,Bool.or_true,Bool.true_or,Bool.and_false,Bool.or_self,Bool.and_self] at HD2
      subst HD2
      try simp only [Bool.not_true,Bool.not_false] at g1
      try simp only [Bool.not_true] at g2
      try simp only [Bool.not_true,Bool.not_false] at g4
      try simp only [Bool.not_true,Bool.not_false] at g5
      go_wp2_with fail
      all_goals
       go_ret
       exact ⟨rfl,HB0.out⟩
    ·
     cases z4
     ·cases z5
      ·
       simp only [Bool.not_true,Bool.not_false,Bool.false_and,Bool.or_true,Bool.and_false,Bool.or_self,Bool.and_self] at HD2
       subst HD2
       try simp only [Bool.not_true,Bool.not_false] at g1
       try simp only [Bool.not_true] at g2
       try simp only [Bool.not_false] at g4
       try simp only [Bool.not_false] at g5
       go_wp2_with fail
       all_goals
        go_ret
        exact ⟨rfl,HB0.out⟩
      ·
       simp only [Bool.not_true,Bool.not_false,Bool.false_and,Bool.and_false,Bool.or_self] at HD2
       subst HD2
       try simp only [Bool.not_true,Bool.not_false] at g1
       try simp only [Bool.not_true] at g2
       try simp only [Bool.not_false] at g4
       try simp only [Bool.not_true] at g5
       go_wp2_with fail
       all_goals
        go_ret
        exact ⟨rfl,HB0.out⟩
     ·
      simp only [Bool.not_true,Bool.not_false,Bool.false_and,Bool.and_false,Bool.or_self] at HD2
      subst HD2
      try simp only [Bool.not_true,Bool.not_false] at g1
      try simp only [Bool.not_true] at g2
      try simp only [Bool.not_true] at g4
      try simp only [Bool.not_true,Bool.not_false] at g5
      go_wp2_with fail
      all_goals
       go_ret
       exact ⟨rfl,HB0.out⟩
  ·
   cases b3
   ·cases z3
    ·
     cases z4
     ·cases z5
      ·
       simp only [Bool.not_true,Bool.not_false,Bool.false_and,Bool.or_true,Bool.and_false,Bool.or_self,Bool.and_self] at HD2
       subst HD2
       try simp only [Bool.not_true,Bool.not_false] at g1
       try simp only [Bool.not_true,Bool.not_false] at g2
       try simp only [Bool.not_false] at g4
       try simp only [Bool.not_false] at g5
       go_wp2_with fail
       all_goals
        go_ret
        exact ⟨rfl,HB0.out⟩
      ·
       simp only [Bool.not_true,Bool.not_false,Bool.false_and,Bool.and_false,Bool.or_self] at HD2
       subst HD2
       try simp only [Bool.not_true,Bool.not_false] at g1
       try simp only [Bool.not_true,Bool.not_false] at g2
       try simp only [Bool.not_false] at g4
       try simp only [Bool.not_true] at g5
       go_wp2_with fail
       all_goals
        go_ret
        exact ⟨rfl,HB0.out⟩
     ·
      simp only [Bool.not_true,Bool.not_false,Bool.false_and,Bool.and_false,Bool.or_self] at HD2
      subst HD2
      try simp only [Bool.not_true,Bool.not_false] at g1
      try simp only [Bool.not_true,Bool.not_false] at g2
      try simp only [Bool.not_true] at g4
      try simp only [Bool.not_true,Bool.not_false] at g5
      go_wp2_with fail
      all_goals
       go_ret
       exact ⟨rfl,HB0.out⟩
    ·
     simp only [Bool.not_true,Bool.not_false,Bool.false_and,Bool.or_true,Bool.true_or,Bool.or_self,Bool.and_self] at HD2
     subst HD2
     try simp only [Bool.not_true,Bool.not_false] at g1
     try simp only [Bool.not_true,Bool.not_false] at g2
     try simp only [Bool.not_true,Bool.not_false] at g4
     try simp only [Bool.not_true,Bool.not_false] at g5
     go_wp2_with fail
     all_goals
      go_ret
      exact ⟨rfl,HB0.out⟩
   ·
    cases z4
    ·cases z5
     ·
      simp only [Bool.not_true,Bool.not_false,Bool.false_and,Bool.or_true,Bool.or_self,Bool.and_self] at HD2
      subst HD2
      try simp only [Bool.not_true,Bool.not_false] at g1
      try simp only [Bool.not_true,Bool.not_false] at g2
      try simp only [Bool.not_false] at g4
      try simp only [Bool.not_false] at g5
      go_wp2_with fail
      all_goals
       go_ret
       exact ⟨rfl,HB0.out⟩
     ·
      simp only [Bool.not_true,Bool.not_false,Bool.false_and,Bool.and_false,Bool.or_self] at HD2
      subst HD2
      try simp only [Bool.not_true,Bool.not_false] at g1
      try simp only [Bool.not_true,Bool.not_false] at g2
      try simp only [Bool.not_false] at g4
      try simp only [Bool.not_true] at g5
      go_wp2_with fail
      all_goals
       go_ret
       exact ⟨rfl,HB0.out⟩
    ·
     simp only [Bool.not_true,Bool.false_and,Bool.or_self] at HD2
     subst HD2
     try simp only [Bool.not_true,Bool.not_false] at g1
     try simp only [Bool.not_true,Bool.not_false] at g2
     try simp only [Bool.not_true] at g4
     try simp only [Bool.not_true,Bool.not_false] at g5
     go_wp2_with fail
     all_goals
      go_ret
      exact ⟨rfl,HB0.out⟩

attribute [local go_sem] Oper.semAt_some

def Unl (l:List V) (j:Nat):Prop:=∀ i k (hi:2 * i < l.length) (hk:2 * k < l.length),i < j → k < i → l[2 * i] ≠ l[2 * k]
theorem evens_lenV (l:List V) (h:l.length % 2 = 0):(evens l).length = l.length / 2:=by rw [evens_len];omega
theorem nodup_unl (l:List V) (h:l.length % 2 = 0):(evens l).Nodup ↔ Unl l (l.length / 2):=by
 have hl:=evens_lenV l h
 unfold List.Nodup
 rw [List.pairwise_iff_getElem]
 constructor
 ·intro q i k hi hk h1 h2 e
  have:=q k i (by omega) (by omega) h2
  rw [evens_get l k hk (by omega),evens_get l i hi (by omega)] at this
  exact this e.symm
 intro q i j hi hj hij e
 rw [evens_get l i (by omega) hi,evens_get l j (by omega) hj] at e
 exact q j i (by omega) (by omega) (by omega) hij e.symm
theorem mapped_ref (a:V) (w:World) (s:Value) (h:VIn w a s) (hlb:a.list.length ≤ 2000000):Calls Tryz.prog 92 #[s] w fun e w'=>e = .returned (.bool (mapOk a.list))∧Below w.heap.size w w':=by
 obtain ⟨p,c,hs,h1,h2,h3⟩:=h.slice
 obtain ⟨N,hN⟩:∃ N,a.list.length = N:=⟨_,rfl⟩
 rw [hN] at hs h1 h3 hlb
 subst hs
 unfold maxLen at h2
 have HV:=Lib.hid h
 have HN:=Lib.hid hN
 clear h hN
 go_enter Tryz.func92,Tryz.ntmps92
 by_cases hodd:N % 2 = 0
 ·by_cases hbig:N ≤ 2048
  ·have hM:=Lib.hid (show Unl a.list (N / 2) ↔ mapOk a.list = true from by
    unfold mapOk
    rw [decide_eq_true_eq,HN.out]
    have:=nodup_unl a.list (by rw [HN.out];exact hodd)
    rw [HN.out] at this
    exact ⟨fun q=>⟨hodd,hbig,this.2 q⟩,fun q=>this.1 q.2.2⟩)
   have ho1:((N:Int) % 2 == 0) = true:=by simp;omega
   have ho2:((N:Int) % 2 != 0) = false:=by simp;omega
   have ho3:decide (1024 < (N:Int) / 2) = false:=decide_eq_false (by omega)
   have HO:=Lib.hid (show ∃ n2,N = 2 * n2 from ⟨N / 2,by omega⟩)
   have HOD:=Lib.hid hodd
   clear hodd
   go_wp2_with fail
   obtain ⟨n2,hn2⟩:=HO.out
   go_loopw [3] (fun v3 wr=>∃ k j:Nat,k = 2 * j∧k ≤ N∧v3 = .int .i64 k∧Hid (Unl a.list j)∧Below w.heap.size w wr) (fun v3 _=>N - (intOf v3).toNat)
   case atStart=>exact ⟨0,0,rfl,Nat.zero_le _,rfl,Lib.hid (fun i k _ _ h=>by omega),Below.refl _ _⟩
   case round =>
    obtain ⟨k,j,hkj,hk',rfl,HU,hb⟩:=hrel
    have HJ:=Lib.hid (And.intro hkj hn2)
    have HB:=Lib.hid hb
    clear hb
    by_cases hkN:(k:Int) < N
    ·have hk2:k+2 ≤ N:=by omega
     have ka:k < a.list.length:=by rw [HN.out];omega
     clear hkj hn2
     go_wp2_with fail
     go_loopw [4] (fun v4 wq=>∃ m q:Nat,m = 2 * q∧m ≤ k∧v4 = .int .i64 m∧Hid (∀ kq (hq:2 * kq < a.list.length),kq < q → a.list[k] ≠ a.list[2 * kq])∧Below w.heap.size w wq) (fun v4 _=>k - (intOf v4).toNat)
     case atStart=>exact ⟨0,0,rfl,Nat.zero_le _,rfl,Lib.hid (fun _ _ h=>by omega),HB.out⟩
     case round =>
      obtain ⟨m,q,hmq,hm',rfl,HQ,hb⟩:=hrel
      have HMQ:=Lib.hid hmq
      by_cases hmk:(m:Int) < k
      ·have hm2:m+2 ≤ k:=by have:=HJ.out.1;omega
       have km:m < a.list.length:=by rw [HN.out];omega
       have hmN:(m:Int) < N:=by omega
       clear hmq
       obtain ⟨b1,o1,rfl⟩:=h3 (by omega)
       obtain ⟨ta,hta,hia⟩:=(HV.out.blw hb).part rfl ka
       obtain ⟨tb,htb,hib⟩:=(HV.out.blw hb).part rfl km
       obtain ⟨c0,c1,c2,c3,c4⟩:=part_cells hta
       obtain ⟨d0,d1,d2,d3,d4⟩:=part_cells htb
       have hd:Below wr.heap.size wr wr.drew:=⟨rfl,rfl,rfl,Nat.le_refl _,fun _ _=>rfl⟩
       have hc:=requal_any _ wr.drew ta _ tb (hia.blw hd) (hib.blw hd)
       have HDR:Hid (Below w.heap.size w wr.drew):=Lib.hid ⟨hb.os,hb.tape,hb.output,hb.size,hb.block⟩
       obtain ⟨z,hz⟩:∃ z,decide (a.list[k] = a.list[m]) = z:=⟨_,rfl⟩
       rw [hz] at hc
       have HZ:=Lib.hid hz
       obtain ⟨pa,ca,hsa,hj0⟩:=hia.slice
       obtain ⟨pb,cb,hsb,hj1⟩:=hib.slice
       subst hsa hsb
       clear hj0 hj1 hz hb hta htb hia hib hd
       obtain ⟨xk,hxk⟩:∃ x,a.list[k] = x:=⟨_,rfl⟩
       obtain ⟨xm,hxm⟩:∃ x,a.list[m] = x:=⟨_,rfl⟩
       rw [hxk] at c0 c1 c2 c3 c4 hc
       rw [hxm] at d0 d1 d2 d3 d4 hc
       have HC:=Lib.hid hc
       clear hc hxk hxm
       go_upto_region 9 with fail
       go_still_tail 8,(by kernel_rfl)
       change wpList _ _ _ _ _ wr.drew
       generalize wr.drew = wd at *
       clear c0 c1 c2 c3 c4 d0 d1 d2 d3 d4
       go_wp2_with fail
       refine HC.out.mono ?_
       rintro e w1 ⟨rfl,hb1⟩
       have HB1:=Lib.hid (HDR.out.trans (hb1.mono HDR.out.size))
       clear hb1
       cases z
       ·have HQ2:=Lib.hid (show ∀ kq (hq:2 * kq < a.list.length),kq < q+1 → a.list[k] ≠ a.list[2 * kq] from fun kq hq h=>by
         by_cases e:kq = q
         ·subst e
          have h1:=of_decide_eq_false HZ.out
          have h2:=HMQ.out
          subst h2
          exact h1
         ·exact HQ.out kq hq (by omega))
        go_wp2_with fail
        go_roundw
        case rel=>exact ⟨m+2,q+1,by have:=HMQ.out;omega,by omega,by go_num,HQ2,HB1.out⟩
        case measure=>simp [intOf];omega
       ·have HF:=Lib.hid (show mapOk a.list = false from by
         cases hmo:mapOk a.list with
         | false=>rfl
         | true =>
          exfalso
          have h0:=hM.out.2 hmo
          have h1:=of_decide_eq_true HZ.out
          have h2:=HMQ.out
          have h3:=HJ.out.1
          subst h2
          subst h3
          exact h0 j q ka km (by omega) (by omega) h1)
        go_wp2_with fail
        go_ret
        exact ⟨ret_boolV (by rw [HF.out]),HB1.out⟩
      ·have hmk2:m = k:=by omega
       have HU2:=Lib.hid (show Unl a.list (j+1) from fun i kk hi hk hij hki=>by
        by_cases e:i = j
        ·subst e
         have h3:=HJ.out.1
         have h2:=HMQ.out
         have h4:=HQ.out kk hk (by omega)
         subst h3
         exact h4
        ·exact HU.out i kk hi hk (by omega) hki)
       have HBQ:=Lib.hid hb
       clear hb hmq
       go_wp2_with fail
       go_roundw
       case rel=>exact ⟨k+2,j+1,by have:=HJ.out.1;omega,by omega,by go_num,HU2,HBQ.out⟩
       case measure=>simp [intOf];omega
    ·have hke:k = N:=by omega
     have HF:=Lib.hid (show mapOk a.list = true from hM.out.1 (by
      have e:j = N / 2:=by omega
      rw [← e];exact HU.out))
     clear hkj hn2 hke
     go_wp2_with fail
     go_ret
     exact ⟨ret_boolV (by rw [HF.out]),HB.out⟩
  ·have hM:=Lib.hid (show mapOk a.list = false from by unfold mapOk;rw [decide_eq_false_iff_not,HN.out];exact fun q=>hbig q.2.1)
   have ho1:((N:Int) % 2 == 0) = true:=by simp;omega
   have ho2:((N:Int) % 2 != 0) = false:=by simp;omega
   have ho3:decide (1024 < (N:Int) / 2) = true:=decide_eq_true (by omega)
   go_wp2_with fail
   go_ret
   exact ⟨ret_boolV (by rw [hM.out]),Below.refl _ _⟩
 have hM:=Lib.hid (show mapOk a.list = false from by unfold mapOk;rw [decide_eq_false_iff_not,HN.out];exact fun q=>hodd q.1)
 have ho1:((N:Int) % 2 == 0) = false:=by simp;omega
 have ho2:((N:Int) % 2 != 0) = true:=by simp;omega
 go_wp2_with fail
 go_ret
 exact ⟨ret_boolV (by rw [hM.out]),Below.refl _ _⟩
theorem arrayed_ref (v:V) (w:World) (s:Value) (h:VIn w v s) (hlb:v.list.length ≤ 2000000):Calls Tryz.prog 93 #[.agg #[.int .i64 v.kind,.int .u64 v.num,.string v.text,s,.int .i64 v.elem]] w fun e w'=>e = .returned (.bool (arrOk v))∧Below w.heap.size w w':=by
 obtain ⟨p,c,hs,h1,h2,h3⟩:=h.slice
 obtain ⟨N,hN⟩:∃ N,v.list.length = N:=⟨_,rfl⟩
 rw [hN] at hs h1 h3 hlb
 subst hs
 unfold maxLen at h2
 have HV:=Lib.hid h
 have HN:=Lib.hid hN
 clear h hN
 go_enter Tryz.func93,Tryz.ntmps93
 go_upto_region 1 with fail
 obtain ⟨w0,x,hw,hx,HB0,-,-,-,-,-,x3,x4⟩:=bxV w v (.slice p N c)
 rw [hw,hx]
 clear hw hx
 by_cases e1:v.elem ≤ 0
 ·have HF:=Lib.hid (show arrOk v = false from by unfold arrOk;exact decide_eq_false (fun q=>by omega))
  go_wp2_with fail
  go_ret
  exact ⟨ret_boolV (by rw [HF.out]),HB0.out⟩
 by_cases e2:24 ≤ v.elem
 ·have HF:=Lib.hid (show arrOk v = false from by unfold arrOk;exact decide_eq_false (fun q=>by omega))
  go_wp2_with fail
  go_ret
  exact ⟨ret_boolV (by rw [HF.out]),HB0.out⟩
 have HE:=Lib.hid (show 0 < v.elem∧v.elem < 24 by omega)
 go_wp2_with fail
 go_loopw [3] (fun v3 wr=>∃ k:Nat,k ≤ N∧v3 = .int .i64 k∧Hid (∀ i (h:i < v.list.length),i < k → (v.list[i]).kind = v.elem)∧Below w0.heap.size w0 wr) (fun v3 _=>N - (intOf v3).toNat)
 case atStart=>exact ⟨0,Nat.zero_le _,rfl,Lib.hid (fun i _ h=>by omega),Below.refl _ _⟩
 obtain ⟨k,hk',rfl,HK,hb⟩:=hrel
 have HB:=Lib.hid hb
 have x3:=bs_cellV hb x3
 have x4:=bs_cellV hb x4
 by_cases hkN:(k:Int) < N
 ·have ka:k < v.list.length:=by rw [HN.out];omega
  obtain ⟨b1,o1,rfl⟩:=h3 (by omega)
  obtain ⟨ta,hta,hia⟩:=(HV.out.blw (HB0.out.trans (hb.mono HB0.out.size))).part rfl ka
  obtain ⟨c0,c1,c2,c3,c4⟩:=part_cells hta
  have HDR:Hid (Below w0.heap.size w0 wr.drew):=Lib.hid ⟨hb.os,hb.tape,hb.output,hb.size,hb.block⟩
  have hcur:(v.list[k]).kind = v.elem ∨ (v.list[k]).kind ≠ v.elem:=Classical.em _
  have HCU:∀ t:Bool,((v.list[k]).kind != v.elem) = t → Hid (((v.list[k]).kind != v.elem) = t):=fun t h=>Lib.hid h
  obtain ⟨z,hz⟩:∃ z,((v.list[k]).kind != v.elem) = z:=⟨_,rfl⟩
  have HZ:=HCU z hz
  obtain ⟨xk,hxk⟩:∃ x,(v.list[k]).kind = x:=⟨_,rfl⟩
  rw [hxk] at c0 hz
  clear hb hta hia hcur HCU hxk c1 c2 c3 c4
  go_upto_region 6 with fail
  go_still_tail 8,(by kernel_rfl)
  change wpList _ _ _ _ _ wr.drew
  generalize wr.drew = wd at *
  clear c0
  cases z
  ·have HK2:=Lib.hid (show ∀ i (h:i < v.list.length),i < k+1 → (v.list[i]).kind = v.elem from fun i hi h=>by
    by_cases e:i = k
    ·subst e
     have:=HZ.out
     simpa using this
    ·exact HK.out i hi (by omega))
   go_wp2_with fail
   go_roundw
   case rel=>exact ⟨k+1,by omega,by go_num,HK2,HDR.out⟩
   case measure=>simp [intOf];omega
  ·have HF:=Lib.hid (show arrOk v = false from by
    unfold arrOk
    refine decide_eq_false (fun q=>?_)
    have h1:=q.2.2 _ (List.getElem_mem ka)
    have h2:=HZ.out
    simp [h1] at h2)
   go_wp2_with fail
   go_ret
   exact ⟨ret_boolV (by rw [HF.out]),HB0.out.trans (HDR.out.mono HB0.out.size)⟩
 have HF:=Lib.hid (show arrOk v = true from by
  unfold arrOk
  refine decide_eq_true ⟨HE.out.1,HE.out.2,fun y hy=>?_⟩
  obtain ⟨i,hi,rfl⟩:=List.mem_iff_getElem.1 hy
  exact HK.out i hi (by rw [HN.out] at hi;omega))
 clear hb
 go_wp2_with fail
 go_ret
 exact ⟨ret_boolV (by rw [HF.out]),HB0.out.trans (HB.out.mono HB0.out.size)⟩
end Go.Proofs.YtnnnfhobbnjmfaaGreatDoor
