/-
  Lemmas on the codec. Conditions: as each says.
-/
import Derived.Test.YtnnnfhobbnjmfaaGreatDoorWn19
import Derived.Test.YtnnnfhobbnjmfaaGreatDoorWn07
import Derived.Test.YtnnnfhobbnjmfaaGreatDoorWn17
import Derived.Test.YtnnnfhobbnjmfaaGreatDoorWn02
import Derived.Test.YtnnnfhobbnjmfaaGreatDoorRows
import Derived.ProofKit
import Derived.OpenShut
import Derived.ChangeArms
import Derived.Deep.Slices
import Derived.Test.YtnnnfhobbnjmfaaGreatDoorWn05
import Derived.Test.YtnnnfhobbnjmfaaGreatDoorWn03
namespace Go.Proofs.YtnnnfhobbnjmfaaGreatDoor
open Go.RowKit
set_option linter.all false
set_option maxHeartbeats 40000000
set_option maxRecDepth 20000

attribute [local go_sem] Oper.semAt_some

theorem own_ref (v:V) (d:Int) (w:World) (s:Value) (h:VIn w v s) (hts:v.text.size ≤ 9223372036854775800) (hlb:v.list.length ≤ 2000000) :
  Calls Tryz.prog 60 #[.agg #[.int .i64 v.kind,.int .u64 v.num,.string v.text,s,.int .i64 v.elem],.int .i64 d] w fun e w'=>e = .returned (.int .i64 (aloneC v d))∧Below w.heap.size w w':=by
 obtain ⟨p,c,hs,h1,h2,h3⟩:=h.slice
 obtain ⟨N,hN⟩:∃ N,v.list.length = N:=⟨_,rfl⟩
 have HLB:=Lib.hid (And.intro hts hlb)
 rw [hN] at hs h1 h3 hlb
 subst hs
 unfold maxLen at h2
 have HV:=Lib.hid h
 have HN:=Lib.hid hN
 obtain ⟨b1,hb1⟩:∃ b,rextraV v = b:=⟨_,rfl⟩
 obtain ⟨b2,hb2⟩:∃ b,numOk v.kind v.num = b:=⟨_,rfl⟩
 obtain ⟨b3,hb3⟩:∃ b,textOk v.kind v.text = b:=⟨_,rfl⟩
 have HBB:=Lib.hid (And.intro hb1 (And.intro hb2 hb3))
 clear h hN hb1 hb2 hb3 hts
 go_enter Tryz.func60,Tryz.ntmps60
 go_upto_region 1 with fail
 obtain ⟨w0,x,hw,hx,HB0,-,HO,-,-,-,-,-⟩:=bxV w v (.slice p N c)
 rw [hw,hx]
 clear hw hx
 have hc:=rextra_any v w0 _ (HV.out.blw HB0.out)
 rw [HBB.out.1] at hc
 have HC:=Lib.hid hc
 clear hc
 obtain ⟨x0,x1,x2,x3,x4⟩:=c5 HO.out
 go_wp2_with fail
 refine HC.out.mono ?_
 clear x0 x1 x2 x3 x4
 rintro e w1 ⟨rfl,hb1⟩
 have HB1:=Lib.hid hb1
 have ox1:=(hb1.block x (Array.getElem?_eq_some_iff.1 HO.out).1).trans HO.out
 have hc:=number_any v w1 _ (HV.out.blw (HB0.out.trans (hb1.mono HB0.out.size)))
 rw [HBB.out.2.1] at hc
 have HC1:=Lib.hid hc
 clear hc hb1
 obtain ⟨x0,x1,x2,x3,x4⟩:=c5 ox1
 clear ox1
 go_wp2_with fail
 refine HC1.out.mono ?_
 clear x0 x1 x2 x3 x4
 rintro e w2 ⟨rfl,hb2⟩
 have HB2:=Lib.hid (HB1.out.trans (hb2.mono HB1.out.size))
 have ox2:=(HB2.out.block x (Array.getElem?_eq_some_iff.1 HO.out).1).trans HO.out
 have hc:=spelled_any v w2 _ (HV.out.blw (HB0.out.trans (HB2.out.mono HB0.out.size))) HLB.out.1
 rw [HBB.out.2.2] at hc
 have HC2:=Lib.hid hc
 clear hc hb2
 obtain ⟨x0,x1,x2,x3,x4⟩:=c5 ox2
 clear ox2
 go_wp2_with fail
 refine HC2.out.mono ?_
 clear x0 x1 x2 x3 x4
 rintro e w3 ⟨rfl,hb3⟩
 have HB3:=Lib.hid (HB2.out.trans (hb3.mono HB2.out.size))
 have ox3:=(HB3.out.block x (Array.getElem?_eq_some_iff.1 HO.out).1).trans HO.out
 have HO3:=Lib.hid ox3
 clear hb3
 obtain ⟨x0,x1,x2,x3,x4⟩:=c5 ox3
 clear ox3
 by_cases k0:v.kind < 0
 ·have k1:¬ 25 ≤ v.kind:=by omega
  have HF:=Lib.hid (show aloneC v d = 20 from by unfold aloneC;rw [if_pos k0])
  go_wp2_with fail
  go_ret
  exact ⟨ret_intV (by rw [HF.out]),HB0.out.trans (HB3.out.mono HB0.out.size)⟩
 by_cases k1:25 ≤ v.kind
 ·skip
  have HF:=Lib.hid (show aloneC v d = 20 from by unfold aloneC;rw [if_neg k0,if_pos (by omega)])
  go_wp2_with fail
  go_ret
  exact ⟨ret_intV (by rw [HF.out]),HB0.out.trans (HB3.out.mono HB0.out.size)⟩
 have HK:=Lib.hid (show 0 ≤ v.kind∧v.kind ≤ 24 by omega)
 by_cases kd:32 < d
 ·skip
  have HF:=Lib.hid (show aloneC v d = 26 from by have h:=HK.out;unfold aloneC;rw [if_neg k0,if_neg (by omega),if_pos kd])
  go_wp2_with fail
  go_ret
  exact ⟨ret_intV (by rw [HF.out]),HB0.out.trans (HB3.out.mono HB0.out.size)⟩
 have HIK:=Lib.hid (show InK v d from ⟨k0,by have:=HK.out;omega,kd⟩)
 have HEX:=Lib.hid (show extraV v = b1 from by rw [← HBB.out.1];exact (rextra_eq v HK.out.1 HK.out.2).symm)
 cases b1
 rotate_left
 ·skip
  have HF:=Lib.hid (show aloneC v d = 25 from by rw [aloneC_in HIK.out,if_pos HEX.out])
  go_wp2_with fail
  go_ret
  exact ⟨ret_intV (by rw [HF.out]),HB0.out.trans (HB3.out.mono HB0.out.size)⟩
 cases b2
 ·skip
  have HF:=Lib.hid (show aloneC v d = 21 from by rw [aloneC_in HIK.out,if_neg (by rw [HEX.out];simp),if_pos HBB.out.2.1])
  go_wp2_with fail
  go_ret
  exact ⟨ret_intV (by rw [HF.out]),HB0.out.trans (HB3.out.mono HB0.out.size)⟩
 cases b3
 ·skip
  have HF:=Lib.hid (show aloneC v d = 22 from by rw [aloneC_in HIK.out,if_neg (by rw [HEX.out];simp),if_neg (by rw [HBB.out.2.1];simp),if_pos HBB.out.2.2])
  go_wp2_with fail
  go_ret
  exact ⟨ret_intV (by rw [HF.out]),HB0.out.trans (HB3.out.mono HB0.out.size)⟩
 have HA:=Lib.hid (aloneC_in3 ⟨HIK.out,HEX.out,HBB.out.2.1,HBB.out.2.2⟩)
 by_cases e22:v.kind = 22
 ·have q22:(v.kind == 22) = true:=by simp [e22]
  have hm:=mapped_ref v w3 _ (HV.out.blw (HB0.out.trans (HB3.out.mono HB0.out.size))) HLB.out.2
  obtain ⟨z,hz⟩:∃ z,mapOk v.list = z:=⟨_,rfl⟩
  rw [hz] at hm
  have HM:=Lib.hid hm
  have HZ:=Lib.hid (show aloneC v d = if z = false then 23 else 0 from by rw [HA.out,if_pos e22,hz])
  clear hm hz e22
  go_wp2_with fail
  refine HM.out.mono ?_
  clear x0 x1 x2 x3 x4
  rintro e w4 ⟨rfl,hb4⟩
  have HB4:=Lib.hid (HB3.out.trans (hb4.mono HB3.out.size))
  clear hb4
  cases z
  ·go_wp2_with fail
   go_ret
   exact ⟨ret_intV (by rw [HZ.out];simp),HB0.out.trans (HB4.out.mono HB0.out.size)⟩
  ·go_wp2_with fail
   go_ret
   exact ⟨ret_intV (by rw [HZ.out,if_neg (by simp)]),HB0.out.trans (HB4.out.mono HB0.out.size)⟩
 have q22:(v.kind == 22) = false:=by simp [e22]
 by_cases e23:v.kind = 23
 ·have q23:(v.kind == 23) = true:=by simp [e23]
  have hm:=arrayed_ref v w3 _ (HV.out.blw (HB0.out.trans (HB3.out.mono HB0.out.size))) HLB.out.2
  obtain ⟨z,hz⟩:∃ z,arrOk v = z:=⟨_,rfl⟩
  rw [hz] at hm
  have HM:=Lib.hid hm
  have HZ:=Lib.hid (show aloneC v d = if z = false then 24 else 0 from by rw [HA.out,if_neg e22,if_pos e23,hz])
  clear hm hz e22 e23
  go_wp2_with fail
  refine HM.out.mono ?_
  clear x0 x1 x2 x3 x4
  rintro e w4 ⟨rfl,hb4⟩
  have HB4:=Lib.hid (HB3.out.trans (hb4.mono HB3.out.size))
  clear hb4
  cases z
  ·go_wp2_with fail
   go_ret
   exact ⟨ret_intV (by rw [HZ.out];simp),HB0.out.trans (HB4.out.mono HB0.out.size)⟩
  ·go_wp2_with fail
   go_ret
   exact ⟨ret_intV (by rw [HZ.out,if_neg (by simp)]),HB0.out.trans (HB4.out.mono HB0.out.size)⟩
 have q23:(v.kind == 23) = false:=by simp [e23]
 by_cases e24:v.kind = 24
 ·have q24:(v.kind == 24) = true:=by simp [e24]
  have HZ:=Lib.hid (show aloneC v d = if N = 2 then 0 else 27 from by rw [HA.out,if_neg e22,if_neg e23,if_pos e24,HN.out])
  clear e22 e23 e24
  by_cases n2:N = 2
  ·have m2:((N:Int) == 2) = true:=by simp;omega
   have m3:((N:Int) != 2) = false:=by simp;omega
   have HN2:=Lib.hid n2
   clear n2
   go_wp2_with fail
   go_ret
   exact ⟨ret_intV (by rw [HZ.out,if_pos HN2.out]),HB0.out.trans (HB3.out.mono HB0.out.size)⟩
  ·have m2:((N:Int) == 2) = false:=by simp;omega
   have m3:((N:Int) != 2) = true:=by simp;omega
   have HN2:=Lib.hid n2
   clear n2
   go_wp2_with fail
   go_ret
   exact ⟨ret_intV (by rw [HZ.out,if_neg HN2.out]),HB0.out.trans (HB3.out.mono HB0.out.size)⟩
 have q24:(v.kind == 24) = false:=by simp [e24]
 have HZ:=Lib.hid (show aloneC v d = 0 from by rw [HA.out,if_neg e22,if_neg e23,if_neg e24])
 clear e22 e23 e24
 go_wp2_with fail
 go_ret
 exact ⟨ret_intV (by rw [HZ.out]),HB0.out.trans (HB3.out.mono HB0.out.size)⟩
theorem firstBad_append (a b:List (Int × V)):firstBad (a ++ b) = if firstBad a = 0 then firstBad b else firstBad a:=by
 induction a with
 | nil=>simp [firstBad]
 | cons x r ih =>
  obtain ⟨d,y⟩:=x
  rw [List.cons_append,firstBad,firstBad]
  by_cases h:aloneC y d = 0
  ·rw [if_pos h,if_pos h,ih]
  ·rw [if_neg h,if_neg h,if_neg h]
theorem pres_drop {l:List V} {k:Nat} (h:k < l.length) (d:Int):pres (l.drop k) d = (l[k]).pre d ++ pres (l.drop (k+1)) d:=by
 rw [List.drop_eq_getElem_cons h,pres]
theorem dep_partV {v x:V} (hx:x ∈ v.list):x.dep+1 ≤ v.dep:=by
 have key:∀ (l:List V) (n:Int),0 ≤ n → x ∈ l → x.dep ≤ deps l n:=by
  intro l
  induction l with
  | nil=>intro n _ h;cases h
  | cons a r ih2 =>
   intro n hn h
   rw [deps,deps_mono r _ (by have:=(dep_bd a).1;omega)]
   rcases List.mem_cons.1 h with rfl|h
   ·omega
   ·have:=ih2 0 (Int.le_refl _) h;omega
 have:=key v.list 0 (Int.le_refl _) hx
 rw [v.dep_eq]
 omega

theorem check_ref:∀ (v:V) (d:Int) (w:World) (s:Value),VIn w v s → v.wt ≤ 2000000 → 1 ≤ d → d+v.dep ≤ 4000000 →
  Calls Tryz.prog 44 #[.agg #[.int .i64 v.kind,.int .u64 v.num,.string v.text,s,.int .i64 v.elem],.int .i64 d] w fun e w'=>e = .returned (.int .i64 (firstBad (v.pre d)))∧Below w.heap.size w w':=by
 refine V.ind (fun v ih d w s h hwt hd1 hd2=>?_)
 obtain ⟨p,c,hs,h1,h2,h3⟩:=h.slice
 obtain ⟨N,hN⟩:∃ N,v.list.length = N:=⟨_,rfl⟩
 have hvd:=(dep_bd v).1
 have htx:=v.text_le
 have hlw:=v.len_lt
 have HI:=Lib.hid ih
 have HW:=Lib.hid (And.intro hwt hd2)
 have HPRE:=Lib.hid (show firstBad (v.pre d) = if aloneC v d = 0 then firstBad (pres v.list (d+1)) else aloneC v d from by rw [V.pre_eq,firstBad])
 rw [hN] at hs h1 h3
 subst hs
 unfold maxLen at h2
 have HV:=Lib.hid h
 have HN:=Lib.hid hN
 have hdb:d ≤ 4000000:=by omega
 have hc0:=fun w0 hb=>own_ref v d w0 _ (VIn.blw h (hb:Below w.heap.size w w0)) (by omega) (by omega)
 have HC0:=Lib.hid hc0
 clear ih h hN hwt hd2 hvd htx hlw hc0
 go_enter Tryz.func44,Tryz.ntmps44
 go_upto_region 1 with fail
 obtain ⟨w0,x,hw,hx,HB0,-,HO,-,-,-,-,-⟩:=bxV w v (.slice p N c)
 rw [hw,hx]
 clear hw hx
 have hc:=HC0.out w0 HB0.out
 obtain ⟨z,hz⟩:∃ z,aloneC v d = z:=⟨_,rfl⟩
 rw [hz] at hc
 have HZ:=Lib.hid hz
 have HC:=Lib.hid hc
 clear hc hz
 obtain ⟨x0,x1,x2,x3,x4⟩:=c5 HO.out
 go_wp2_with fail
 refine HC.out.mono ?_
 clear x0 x1 x2 x3 x4
 rintro e w1 ⟨rfl,hb1⟩
 have HB1:=Lib.hid hb1
 have ox1:=(hb1.block x (Array.getElem?_eq_some_iff.1 HO.out).1).trans HO.out
 have x3:w1.cell? ⟨x,3,none⟩ = some (.slice p N c):=(cell_of_row _ _ 3 _ _ _ ox1).trans rfl
 clear hb1 ox1
 by_cases hz0:z = 0
 ·have hzb:(z != 0) = false:=by simp [hz0]
  have hzc:(z == 0) = true:=by simp [hz0]
  obtain ⟨D,hD⟩:∃ D,firstBad (pres v.list (d+1)) = D:=⟨_,rfl⟩
  have HF:=Lib.hid (show firstBad (v.pre d) = D from by rw [HPRE.out,HZ.out,if_pos hz0,hD])
  have HD:=Lib.hid (show firstBad (pres (v.list.drop 0) (d+1)) = D by rw [List.drop_zero];exact hD)
  clear hz0 hD
  go_wp2_with fail
  go_loopw [5,6] (fun v5 v6 wr=>∃ (k:Nat) (q5:Int),k ≤ N∧v6 = .int .i64 k∧v5 = .int .i64 q5∧Hid (firstBad (pres (v.list.drop k) (d+1)) = D)∧Below w1.heap.size w1 wr) (fun _ v6 _=>N - (intOf v6).toNat)
  case atStart=>exact ⟨0,_,Nat.zero_le _,rfl,rfl,HD,Below.refl _ _⟩
  case round =>
   obtain ⟨k,q5,hk',rfl,rfl,HK,hb⟩:=hrel
   have HB:=Lib.hid hb
   have x3:=bs_cellV hb x3
   by_cases hkN:(k:Int) < N
   ·have ka:k < v.list.length:=by rw [HN.out];omega
    obtain ⟨b1,o1,rfl⟩:=h3 (by omega)
    have hB:=HB0.out.trans ((HB1.out.trans (hb.mono HB1.out.size)).mono HB0.out.size)
    obtain ⟨ta,hta,hia⟩:=(HV.out.blw hB).part rfl ka
    obtain ⟨c0,c1,c2,c3,c4⟩:=part_cells hta
    have hst:=HK.out
    rw [pres_drop ka,firstBad_append] at hst
    have hc:=HI.out _ (List.getElem_mem ka) (d+1) wr ta hia (by have:=V.wt_lt (List.getElem_mem ka);have:=HW.out.1;omega) (by omega) (by have:=dep_partV (List.getElem_mem ka);have:=HW.out.2;omega)
    obtain ⟨pa,ca,hsa,hj0⟩:=hia.slice
    subst hsa
    obtain ⟨y,hy⟩:∃ y,firstBad ((v.list[k]).pre (d+1)) = y:=⟨_,rfl⟩
    rw [hy] at hc hst
    obtain ⟨xk,hxk⟩:∃ x,v.list[k] = x:=⟨_,rfl⟩
    rw [hxk] at c0 c1 c2 c3 c4 hc
    have HC2:=Lib.hid hc
    have HST:=Lib.hid hst
    clear hc hst hy hxk hj0 hia hta hB hb
    go_wp2_with fail
    refine HC2.out.mono ?_
    clear c0 c1 c2 c3 c4
    rintro e w2 ⟨rfl,hb2⟩
    have HB2:=Lib.hid (HB.out.trans (hb2.mono HB.out.size))
    clear hb2
    by_cases hy0:y = 0
    ·have hyb:(y != 0) = false:=by simp [hy0]
     have hyc:(y == 0) = true:=by simp [hy0]
     have HN2:=Lib.hid (show firstBad (pres (v.list.drop (k+1)) (d+1)) = D from by rw [← HST.out,if_pos hy0])
     clear hy0
     go_wp2_with fail
     go_roundw
     case rel=>exact ⟨k+1,_,by omega,by go_num,rfl,HN2,HB2.out⟩
     case measure=>simp [intOf];omega
    ·have hyb:(y != 0) = true:=by simp [hy0]
     have hyc:(y == 0) = false:=by simp [hy0]
     have HN2:=Lib.hid (show D = y from by rw [← HST.out,if_neg hy0])
     clear hy0
     go_wp2_with fail
     go_ret
     exact ⟨ret_intV (by rw [HF.out,HN2.out]),HB0.out.trans ((HB1.out.trans (HB2.out.mono HB1.out.size)).mono HB0.out.size)⟩
   ·have HN2:=Lib.hid (show D = 0 from by rw [← HK.out,List.drop_eq_nil_of_le (by rw [HN.out];omega),pres,firstBad])
    clear hb
    go_wp2_with fail
    go_ret
    exact ⟨ret_intV (by rw [HF.out,HN2.out]),HB0.out.trans ((HB1.out.trans (HB.out.mono HB1.out.size)).mono HB0.out.size)⟩
 have hzb:(z != 0) = true:=by simp [hz0]
 have hzc:(z == 0) = false:=by simp [hz0]
 have HF:=Lib.hid (show firstBad (v.pre d) = z from by rw [HPRE.out,HZ.out,if_neg hz0])
 clear hz0
 go_wp2_with fail
 go_ret
 exact ⟨ret_intV (by rw [HF.out]),HB0.out.trans (HB1.out.mono HB0.out.size)⟩
theorem rcheck_any (v:V) (w:World) (s:Value) (h:VIn w v s) (hwt:v.wt ≤ 2000000) :
  Calls Tryz.prog 30 #[.agg #[.int .i64 v.kind,.int .u64 v.num,.string v.text,s,.int .i64 v.elem]] w fun e w'=>e = .returned (.int .i64 (firstBad (v.pre 1)))∧Below w.heap.size w w':=by
 obtain ⟨p,c,hs,h1,h2,h3⟩:=h.slice
 obtain ⟨N,hN⟩:∃ N,v.list.length = N:=⟨_,rfl⟩
 rw [hN] at hs
 subst hs
 have hvd:=dep_bd v
 have hc0:=fun w0 hb=>check_ref v 1 w0 _ (VIn.blw h (hb:Below w.heap.size w w0)) hwt (by omega) (by omega)
 have HC0:=Lib.hid hc0
 clear h hN hwt hvd hc0 h1 h2 h3
 go_enter Tryz.func30,Tryz.ntmps30
 go_upto_region 1 with fail
 obtain ⟨w0,x,hw,hx,HB0,-,HO,-,-,-,-,-⟩:=bxV w v (.slice p N c)
 rw [hw,hx]
 clear hw hx
 have HC:=Lib.hid (HC0.out w0 HB0.out)
 obtain ⟨x0,x1,x2,x3,x4⟩:=c5 HO.out
 go_wp2_with fail
 refine HC.out.mono ?_
 clear x0 x1 x2 x3 x4
 rintro e w1 ⟨rfl,hb1⟩
 have HB1:=Lib.hid (HB0.out.trans (hb1.mono HB0.out.size))
 clear hb1
 go_wp2_with fail
 go_ret
 exact ⟨rfl,HB1.out⟩

attribute [local go_sem] Oper.semAt_some

theorem rboth_on:∀ v:V,WitOn v∧ShoOn v:=by
 refine V.ind (fun v ih=>?_)
 have h1:WitOn v:=wit_of v (fun x hx=>(ih x hx).2) (runi_of v (fun x hx=>(ih x hx).1))
 exact ⟨h1,sho_of v h1⟩
theorem rencode_any (v:V) (w:World) (s:Value) (hv:VIn w v s) (hT:Tabs w) (hwt:v.wt ≤ 2000000) :
  Calls Tryz.prog 8 #[.agg #[.int .i64 v.kind,.int .u64 v.num,.string v.text,s,.int .i64 v.elem]] w (EncTo w v):=by
 have hc:=fun W (hW:Below w.heap.size w W)=>rcheck_any v W s (hv.blw hW) hwt
 obtain ⟨E,hE⟩:∃ E,firstBad (v.pre 1) = E:=⟨_,rfl⟩
 rw [hE] at hc
 have HC:=Lib.hid hc
 have HV:=Lib.hid (And.intro hv (And.intro hwt hE))
 clear hc hv hT hwt hE
 go_enter Tryz.func8,Tryz.ntmps8
 go_upto_region 1 with fail
 obtain ⟨w0,x,hw,hx,HB0,HX,HOX,x0,x1,x2,x3,x4⟩:=bxV w v s
 rw [hw,hx]
 clear hw hx
 go_wp2_with fail
 refine (HC.out w0 HB0.out).mono ?_
 clear x0 x1 x2 x3 x4
 rintro e w1 ⟨rfl,hb1⟩
 have HX1:=Lib.hid ((hb1.block x (gl HOX.out)).trans HOX.out)
 have HB1:=Lib.hid (HB0.out.trans (hb1.mono HB0.out.size))
 clear hb1
 by_cases hE:E = 0
 ·subst hE
  obtain ⟨hr,hd⟩:=(right_iff (vin_wf v s HV.out.1)).1 HV.out.2.2
  have hp:=(rboth_on v).2 hr (by have:=HV.out.2.1;omega) w1 s (HV.out.1.blw HB1.out)
  have HP:=Lib.hid hp
  have HPL:=Lib.hid (putV_len v).2
  clear hp hr hd
  obtain ⟨x0,x1,x2,x3,x4⟩:=c5 HX1.out
  go_wp2_with fail
  refine HP.out.mono ?_
  clear x0 x1 x2 x3 x4
  rintro e w2 ⟨c,hc256,d,hput,fp,fn,fk,rfl,⟨hyc,hfp⟩,hb2⟩
  have hml:(putV v).length = 1+fn:=by rw [hput,List.length_cons,hyc.len];omega
  have HML:=Lib.hid (And.intro hml hput)
  have HFN:=Lib.hid (show (fn:Int) ≤ 1000000000 from by have h1:=HPL.out;have h2:=HV.out.2.1;omega)
  clear hput hfp hml
  go_upto_region 5 with (refine wpList_store_rowTo rfl 58 (.tmp 5) (.tmp 12) rfl rfl w2.heap.size #[.int .i64 (c:Nat),.slice fp fn fk] rfl rfl 58 #[.int .i64 0,.slice none 0 0] (_root_.Go.heap_alloc_new w2 _) (by as_aux_lemma=>kernel_rfl) (by as_aux_lemma=>kernel_rfl) (by simp [Value.oneCell']) ?_)
  have hb_w3:Below w2.heap.size w2 ((w2.alloc (.cells #[.int .i64 0,.slice none 0 0] 58)).setRow w2.heap.size #[.int .i64 (c:Nat),.slice fp fn fk]):=below_setRow ((Below.refl _ _).alloc (Nat.le_refl _) _) (Nat.le_refl _) _
  have oz:=setRow_heap (w2.alloc (.cells #[.int .i64 0,.slice none 0 0] 58)) w2.heap.size _ #[.int .i64 (c:Nat),.slice fp fn fk] _ _ (_root_.Go.heap_alloc_new w2 _)
  change Code.wp _ _ _ _ ((w2.alloc (.cells #[.int .i64 0,.slice none 0 0] 58)).setRow w2.heap.size #[.int .i64 (c:Nat),.slice fp fn fk])
  generalize ((w2.alloc (.cells #[.int .i64 0,.slice none 0 0] 58)).setRow w2.heap.size #[.int .i64 (c:Nat),.slice fp fn fk]) = w3 at *
  obtain ⟨z,hx_z⟩:∃ x,w2.heap.size = x:=⟨_,rfl⟩
  rw [hx_z] at oz ⊢
  have HX_z:=Lib.hid hx_z
  clear hx_z
  have HZR:=Lib.hid oz
  have hb3:=hb2.trans (hb_w3.mono hb2.size)
  have HB3:=Lib.hid (And.intro (HB1.out.trans (hb3.mono HB1.out.size)) (hyc.below hb_w3))
  have z0:w3.cell? ⟨z,0,none⟩ = some (.int .i64 c):=(cell_of_row _ _ 0 _ _ _ oz).trans rfl
  have z1:w3.cell? ⟨z,1,none⟩ = some (.slice fp fn fk):=(cell_of_row _ _ 1 _ _ _ oz).trans rfl
  have hfnI:=HFN.out
  clear oz hb_w3 hyc hb2 hb3
  by_cases hl:1048576 < 1+(fn:Int)
  ·have he:encS v = ([],2):=by unfold encS;rw [if_neg (by rw [HV.out.2.2];simp),if_pos (by have:=HML.out.1;omega)]
   have HE:=Lib.hid he
   clear he
   go_wp2_with fail
   go_ret2
   exact ⟨.slice none 0 0,by rw [HE.out];rfl,by rw [HE.out];exact OwnBytes.nil _ _ _,HB3.out.1⟩
  ·have he:encS v = (putV v,0):=by unfold encS;rw [if_neg (by rw [HV.out.2.2];simp),if_neg (by have:=HML.out.1;omega)]
   have HE:=Lib.hid he
   clear he
   have z1a:∀ o,(w3.alloc o).cell? ⟨z,1,none⟩ = some (.slice fp fn fk):=fun o=>bs_cellV ((Below.refl w3.heap.size w3).alloc (Nat.le_refl _) o) z1
   have hz3:w.heap.size ≤ w3.heap.size:=HB3.out.1.size
   go_wp2_with (at_builtin;refine wpList_append_bytesF rfl (.tmp 21) (.tmp 23) 28 rfl w.heap.size Tryz.underlying28 info_u8 _ [UInt8.ofNat c] d _ fn fk rfl rfl (own_lit2 w3 w.heap.size _ _ ?hyv hz3) (HB3.out.2.below ((Below.refl w3.heap.size w3).alloc (Nat.le_refl _) _)) ?hlen (by simp;omega) ?_)
   case hyv=>first|rw [ofNat_toNat hc256]|omega
   case hlen =>
    have h0:=HB3.out.2.len
    have h1:=HFN.out
    first|omega|(simp;omega)
   intro u4 w4 ho4 hg4
   have HO4:=Lib.hid ho4
   have HW4:=Lib.hid ((HB3.out.1.alloc hz3 _).trans (hg4.below (own_lit2 w3 w.heap.size _ _ (by rw [ofNat_toNat hc256]) hz3) (by simp;omega)))
   clear ho4 hg4
   go_wp2_with fail
   go_ret2
   exact ⟨u4,by rw [HE.out];rfl,by rw [HE.out,HML.out.2];exact HO4.out,HW4.out⟩
 have he:encS v = ([],E):=by unfold encS;rw [HV.out.2.2,if_pos hE]
 have HE:=Lib.hid he
 have hE2:(E != 0) = true:=by simp [hE]
 clear he
 go_wp2_with fail
 go_ret2
 exact ⟨.slice none 0 0,by rw [HE.out];rfl,by rw [HE.out];exact OwnBytes.nil _ _ _,HB1.out⟩
end Go.Proofs.YtnnnfhobbnjmfaaGreatDoor


namespace Go.Proofs.YtnnnfhobbnjmfaaGreatDoor
open Go.RowKit Go.ChangeShapes Go.WideShapes Go.ChangeAt Go.Deep
set_option linter.all false
set_option maxHeartbeats 40000000
set_option maxRecDepth 20000

theorem wf_u64V {n:Int} (h:(Lit.int .u64 n).wf = true):IsU64 n:=by
 obtain ⟨m,rfl,hm⟩:=bd_u64 h
 exact ⟨by omega,by omega⟩
section
variable {H:Type} {enc:TypeId × Value -> H} {w:World}

end

structure KeepF (F:Nat -> Prop) (W W2:World):Prop where
 os:W2.os = W.os
 tape:W2.tape = W.tape
 output:W2.output = W.output
 size:W.heap.size <= W2.heap.size
 block:∀ j,j < W.heap.size -> ¬ F j -> W2.heap[j]? = W.heap[j]?
theorem KeepF.refl (F:Nat -> Prop) (W:World):KeepF F W W:=⟨rfl,rfl,rfl,Nat.le_refl _,fun _ _ _=>rfl⟩
theorem KeepF.trans {F:Nat -> Prop} {W W2 W3:World} (h:KeepF F W W2) (h':KeepF F W2 W3):KeepF F W W3 :=
 ⟨h'.os.trans h.os,h'.tape.trans h.tape,h'.output.trans h.output,Nat.le_trans h.size h'.size,fun j hj ho=>(h'.block j (Nat.lt_of_lt_of_le hj h.size) ho).trans (h.block j hj ho)⟩
theorem KeepF.wide {F G:Nat -> Prop} {W W2:World} (h:KeepF F W W2) (hg:∀ j,F j -> G j):KeepF G W W2:=⟨h.os,h.tape,h.output,h.size,fun j hj ho=>h.block j hj (fun q=>ho (hg j q))⟩
theorem KeepF.of_below {F:Nat -> Prop} {W W2:World} (h:Below W.heap.size W W2):KeepF F W W2:=⟨h.os,h.tape,h.output,h.size,fun j hj _=>h.block j hj⟩
theorem KeepF.below {F:Nat -> Prop} {n:Nat} {w W W2:World} (hb:Below n w W) (h:KeepF F W W2) (hF:∀ j,F j -> n <= j) (hn:n <= W.heap.size):Below n w W2 :=
 ⟨h.os.trans hb.os,h.tape.trans hb.tape,h.output.trans hb.output,Nat.le_trans hb.size h.size,fun j hj=>(h.block j (by omega) (fun q=>by have:=hF j q;omega)).trans (hb.block j hj)⟩
theorem KeepF.setCells {F:Nat -> Prop} {w W:World} {b:Nat} (h:KeepF F w W) (hb:F b) (o:Nat) (vs:List Value):KeepF F w (W.setCells b o vs):=by
 have g:=setCells_grown W b o vs
 exact h.trans ⟨g.os,g.tape,g.output,g.size,fun j hj ho=>g.block j hj (fun e=>by have:=Option.some.inj e;subst this;exact ho hb)⟩
theorem KeepF.grown {F:Nat -> Prop} {w W W':World} {d:Nat} (h:KeepF F w W) (hg:W.grownBy W' (some d)) (hd:w.heap.size <= d):KeepF F w W' :=
 ⟨hg.os.trans h.os,hg.tape.trans h.tape,hg.output.trans h.output,Nat.le_trans h.size hg.size,fun j hj ho=>(hg.block j (Nat.lt_of_lt_of_le hj h.size) (fun e=>by have:=Option.some.inj e;omega)).trans (h.block j hj ho)⟩
theorem KeepF.drew {F:Nat -> Prop} {w W:World} (h:KeepF F w W):KeepF F w W.drew:=⟨h.os,h.tape,h.output,h.size,h.block⟩

/-! ### rows of five cells each, by number -/
def rowsF:Nat -> (Nat -> List Value) -> List Value
 | 0,_=>[]
 | n+1,c=>rowsF n c ++ c n
def updF (c:Nat -> List Value) (k:Nat) (m:List Value):Nat -> List Value:=fun i=>if i = k then m else c i
theorem updF_same (c:Nat -> List Value) (k:Nat) (m:List Value):updF c k m k = m:=if_pos rfl
theorem updF_other {c:Nat -> List Value} {k i:Nat} {m:List Value} (h:i ≠ k):updF c k m i = c i:=if_neg h
theorem updF_len {c:Nat -> List Value} {k:Nat} {m:List Value} (hc:∀ i,(c i).length = 5) (hm:m.length = 5) (i:Nat):(updF c k m i).length = 5:=by
 unfold updF;split
 ·exact hm
 ·exact hc i
theorem rowsF_len {c:Nat -> List Value} (hc:∀ i,(c i).length = 5):∀ n,(rowsF n c).length = n * 5
 | 0=>rfl
 | n+1=>by rw [rowsF,List.length_append,rowsF_len hc n,hc n];omega
theorem rowsF_get {c:Nat -> List Value} (hc:∀ i,(c i).length = 5):∀ (n i j:Nat),i < n -> j < 5 -> (rowsF n c)[i * 5+j]? = (c i)[j]?
 | 0,i,j,h,_=>by omega
 | n+1,i,j,h,hj=>by
  rw [rowsF]
  by_cases e:i < n
  ·rw [List.getElem?_append_left (by rw [rowsF_len hc];omega)]
   exact rowsF_get hc n i j e hj
  ·obtain rfl:i = n:=by omega
   rw [List.getElem?_append_right (by rw [rowsF_len hc];omega),rowsF_len hc]
   congr 1
   omega
theorem rowsF_set {c:Nat -> List Value} (hc:∀ i,(c i).length = 5) {m:List Value} (hm:m.length = 5) {n k:Nat} (hk:k < n):splice (rowsF n c) (k * 5) m = rowsF n (updF c k m):=by
 apply List.ext_getElem?
 intro q
 have hu:=updF_len (k:=k) hc hm
 have hl:=rowsF_len hc n
 have hl2:=rowsF_len hu n
 have hs:=splice_length (rowsF n c) (k * 5) m (by rw [hl,hm];omega)
 by_cases hq:q < n * 5
 ·have hq2:q = q / 5 * 5+q % 5:=by omega
  have h5:q % 5 < 5:=by omega
  have hqn:q / 5 < n:=by omega
  generalize q / 5 = i at *
  generalize q % 5 = j at *
  subst hq2
  rw [rowsF_get hu n i j hqn h5]
  have t1:((rowsF n c).take (k * 5)).length = k * 5:=by rw [List.length_take,hl];omega
  unfold splice
  rw [List.append_assoc]
  by_cases e:i = k
  ·subst e
   rw [updF_same,List.getElem?_append_right (by omega),t1,List.getElem?_append_left (by omega)]
   congr 1
   omega
  ·rw [updF_other e]
   by_cases e2:i < k
   ·rw [List.getElem?_append_left (by omega),List.getElem?_take_of_lt (by omega)]
    exact rowsF_get hc n i j hqn h5
   ·rw [List.getElem?_append_right (by omega),t1,List.getElem?_append_right (by omega),List.getElem?_drop,hm,← rowsF_get hc n i j hqn h5]
    congr 1
    omega
 ·rw [List.getElem?_eq_none (by omega),List.getElem?_eq_none (by omega)]

def RowF (w:World) (B b n:Nat) (c:Nat -> List Value):Prop:=w.ownsRow B 25 5 (.slice (some ⟨b,0,none⟩) n n) n (rowsF n c)
section
variable {w w':World} {B b n:Nat} {c:Nat -> List Value}
theorem RowF.lt (h:RowF w B b n c):B <= b∧b < w.heap.size:=World.ownsRow.lt h b rfl
theorem RowF.keep (h:RowF w B b n c) (e:w'.heap[b]? = w.heap[b]?):RowF w' B b n c:=ownsRow_keep h (fun j hj=>by
 have:b = j:=by simpa [Value.ownBlock] using hj
 subst this;exact e)
theorem RowF.cell (h:RowF w B b n c) (hc:∀ i,(c i).length = 5) {i j:Nat} {u:Value} (hi:i < n) (hu:(c i)[j]? = some u):w.cell? ⟨b,i * 5+j,none⟩ = some u:=by
 have hj:j < 5:=by rw [← hc i];exact (List.getElem?_eq_some_iff.1 hu).1
 exact ownsRow_cell h (by rw [rowsF_get hc n i j hi hj];exact hu)
theorem RowF.there (h:RowF w B b n c) {k:Nat} (hk:k < n):w.there b (k * 5) 5:=ownsRow_there h hk
theorem RowF.set (h:RowF w B b n c) (hc:∀ i,(c i).length = 5) {k:Nat} (hk:k < n) {m:List Value} (hm:m.length = 5):RowF (w.setCells b (k * 5) m) B b n (updF c k m):=by
 have:=ownsRow_set h hk hm
 rwa [rowsF_set hc hm hk] at this
theorem RowF.cap (h:RowF w B b n c):n <= maxLen:=by
 rcases h.2 with ⟨q,_⟩|⟨g,cap,cur,q,_,_,h1,h2,_⟩
 ·simp at q
 ·simp only [Value.slice.injEq] at q
  omega
theorem RowF.base (h:RowF w B b n c) {B':Nat} (hB:B' <= B):RowF w B' b n c:=ownsRow_base h (fun j hj=>by
 have:b = j:=by simpa [Value.ownBlock] using hj
 subst this;exact Nat.le_trans hB h.lt.1)
end

/-! ### lent -/
def mkV (i:Nat):V:=.mk (-7) i ⟨#[]⟩ [] 0
def nilS:Value:=.slice none 0 0
inductive VL (w:World) (B:Nat):V -> Value -> (Nat -> Prop) -> Prop
 | mk (v:V) (b:Nat) (F:Nat -> Prop) (c:Nat -> List Value) (ss:Nat -> Value) (Fs:Nat -> Nat -> Prop) (wf:v.Wf) (hc:∀ i,(c i).length = 5) (hrow:RowF w B b (v.list.length+3) c)
   (h1:∀ i (h:i < v.list.length),c i = vcells v.list[i] (ss i)) (h2:∀ i,v.list.length <= i -> i < v.list.length+3 -> c i = vcells (mkV i) nilS) (hin:∀ i (h:i < v.list.length),VL w B v.list[i] (ss i) (Fs i))
   (hd:∀ i j,i < v.list.length -> j < v.list.length -> i ≠ j -> ∀ g,Fs i g -> ¬ Fs j g) (hs:∀ i,i < v.list.length -> ¬ Fs i b) (hF:∀ g,F g ↔ (g = b ∨ ∃ i,i < v.list.length∧Fs i g)):VL w B v (.slice (some ⟨b,0,none⟩) v.list.length (v.list.length+3)) F
section
variable {w w':World} {v:V} {s:Value} {B B':Nat} {F:Nat -> Prop}
theorem VL.wf (h:VL w B v s F):v.Wf:=by cases h;assumption
theorem VL.lt (h:VL w B v s F):∀ b,F b -> B <= b∧b < w.heap.size:=by
 induction h with
 | mk v b F c ss Fs wf hc hrow h1 h2 hin hd hs hF ih =>
  intro g hg
  rcases (hF g).1 hg with rfl|⟨i,hi,q⟩
  ·exact hrow.lt
  ·exact ih i hi g q
theorem VL.keep (h:VL w B v s F) (e:∀ b,F b -> w'.heap[b]? = w.heap[b]?):VL w' B v s F:=by
 induction h with
 | mk v b F c ss Fs wf hc hrow h1 h2 hin hd hs hF ih =>
  exact .mk v b F c ss Fs wf hc (hrow.keep (e b ((hF b).2 (.inl rfl)))) h1 h2 (fun i hi=>ih i hi (fun g hg=>e g ((hF g).2 (.inr ⟨i,hi,hg⟩)))) hd hs hF
theorem VL.blw (h:VL w B v s F) (hb:Below w.heap.size w w'):VL w' B v s F:=h.keep (fun b q=>hb.block b (h.lt b q).2)
theorem VL.keepF {G:Nat -> Prop} (h:VL w B v s F) (hk:KeepF G w w') (hd:∀ b,F b -> ¬ G b):VL w' B v s F:=h.keep (fun b q=>hk.block b (h.lt b q).2 (hd b q))
theorem VL.mono (h:VL w B v s F) (hB:B' <= B):VL w B' v s F:=by
 induction h with
 | mk v b F c ss Fs wf hc hrow h1 h2 hin hd hs hF ih =>
  exact .mk v b F c ss Fs wf hc (hrow.base hB) h1 h2 (fun i hi=>ih i hi) hd hs hF
theorem VL.as {v':V} (h:VL w B v s F) (hl:v'.list = v.list) (hw:v'.Wf):VL w B v' s F:=by
 cases h with
 | mk _ b _ c ss Fs wf hc hrow h1 h2 hin hd hs hF =>
  have key:∀ (L:List V) (e:L = v.list),v'.list = L -> VL w B v' (.slice (some ⟨b,0,none⟩) L.length (L.length+3)) F:=by
   intro L e e2
   subst e2
   have hln:v'.list.length = v.list.length:=by rw [e]
   refine .mk v' b F c ss Fs hw hc (by rw [hln];exact hrow) (fun i hi=>?_) (fun i q1 q2=>h2 i (hln ▸ q1) (hln ▸ q2)) (fun i hi=>?_) (fun i j hi hj=>hd i j (hln ▸ hi) (hln ▸ hj)) (fun i hi=>hs i (hln ▸ hi)) (fun g=>by rw [hF g,hln])
   ·rw [h1 i (hln ▸ hi)]
    simp only [e]
   ·have:=hin i (hln ▸ hi)
    simpa only [e] using this
  exact key v.list rfl hl
theorem VL.slice (h:VL w B v s F):∃ b,s = .slice (some ⟨b,0,none⟩) v.list.length (v.list.length+3)∧F b∧v.list.length+3 <= maxLen:=by
 cases h with
 | mk _ b _ c ss Fs wf hc hrow h1 h2 hin hd hs hF=>exact ⟨b,rfl,(hF b).2 (.inl rfl),hrow.cap⟩
theorem VL.vin (h:VL w B v s F):VIn w v s:=by
 induction h with
 | mk v b F c ss Fs wf hc hrow h1 h2 hin hd hs hF ih =>
  refine .mk v (some ⟨b,0,none⟩) _ ss wf (by omega) hrow.cap (fun _=>⟨b,0,rfl⟩) (fun b' o e i hi j u hu=>?_) ih
  simp only [Option.some.injEq,Addr.mk.injEq] at e
  obtain ⟨rfl,rfl,_⟩:=e
  rw [Nat.zero_add]
  exact hrow.cell hc (by omega) (by rw [h1 i hi];exact hu)
end
/-! ### turned -/
def xor1 (n:Int):Int:=bits BinOp.xor IntKind.u64 n 1
theorem xor1_u64 (n:Int):IsU64 (xor1 n):=wf_u64V (wf_bits _ _ _ _)
mutual
def V.turned:V -> V
 | .mk k n t l e=>.mk k (xor1 n) t (turneds l) e
def turneds:List V -> List V
 | []=>[]
 | v :: r=>v.turned :: turneds r
end
theorem turneds_map (l:List V):turneds l = l.map V.turned:=by
 induction l with
 | nil=>rfl
 | cons a r ih=>rw [turneds,ih];rfl
theorem V.turned_eq (v:V):v.turned = .mk v.kind (xor1 v.num) v.text (v.list.map V.turned) v.elem:=by cases v;rw [V.turned,turneds_map];rfl
theorem V.Wf.turned {v:V} (h:v.Wf):v.turned.Wf:=by
 rw [V.turned_eq]
 exact ⟨h.k,xor1_u64 _,h.t,h.e⟩
end Go.Proofs.YtnnnfhobbnjmfaaGreatDoor
