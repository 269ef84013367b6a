/-
  Lemmas on the codec. Conditions: as each says.
-/
import Derived.Test.YtnnnfhobbnjmfaaGreatDoorWn23
namespace Go.Proofs.YtnnnfhobbnjmfaaGreatDoor
open Go.RowKit Go.Proofs.Tryz
set_option linter.all false
set_option maxHeartbeats 40000000
set_option maxRecDepth 20000

theorem RdTo.of_text {w w':World} {r:Nat} {p:Option Addr} {n cp at_ en:Nat} {sz own:Int} {K:Int} {t:ByteArray} {k:Nat} (hK:IsI64 K) (ht:t.size <= maxLen) (h:RdMv w w' r #[.slice p n cp,.int .i64 (at_+k:Nat),.int .i64 (en:Nat),.int .i64 sz]) :
  RdTo w r p n cp at_ en sz own (.ok (.mk K 0 t [] 0,k)) (.returned (.agg #[.int .i64 K,.int .u64 0,.string t,.slice none 0 0,.int .i64 0])) w' :=
 ⟨_,_,rfl,VO.nil w' _ ⟨hK,⟨by show (0:Int) <= 0;omega,by show (0:Int) <= 18446744073709551615;omega⟩,ht,⟨by show (-9223372036854775808:Int) <= 0;omega,by show (0:Int) <= 9223372036854775807;omega⟩⟩ rfl,h⟩
theorem RdTo.of_pl {w w':World} {r:Nat} {p:Option Addr} {n cp at_ en:Nat} {sz own:Int} {k:Nat} {e:EC} {a c:Int} (ha:a = (at_+k:Nat)) (hc:c = e.1) (h:KeepF (fun g=>g = r) w w') :
  RdTo w r p n cp at_ en sz own (.error (.pl k e)) (faultE a c) w':=by subst ha hc;exact ⟨rfl,h⟩
theorem codes_text (c:Nat) (hc:c / 16 = 10 ∨ c / 16 = 11) (hk:0 <= kindC c):c = 0xa0 ∨ c = 0xa1 ∨ c = 0xa3 ∨ c = 0xb0 ∨ c = 0xb1 ∨ c = 0xb3:=by
 obtain ⟨d,hd,rfl⟩:∃ d,d < 32∧c = 160+d:=⟨c - 160,by omega,by omega⟩
 have key:∀ d:Fin 32,0 <= kindC (160+d.1) -> 160+d.1 = 0xa0 ∨ 160+d.1 = 0xa1 ∨ 160+d.1 = 0xa3 ∨ 160+d.1 = 0xb0 ∨ 160+d.1 = 0xb1 ∨ 160+d.1 = 0xb3:=by decide
 exact key ⟨d,hd⟩ hk
theorem wOf_bd (c:Nat):1 <= wOf c∧wOf c <= 4:=by unfold wOf;split <;> omega
theorem text_any (c:Nat) (hc:c / 16 = 10 ∨ c / 16 = 11) (hk:0 <= kindC c) (w:World) (r:Nat) (p:Option Addr) (n cp at_ en:Nat) (sz own:Int) (B:List UInt8) (h:RdIn w r p n cp at_ en sz B) :
  Calls Tryz.prog 81 #[.pointer (some ⟨r,0,none⟩),.int .i64 (kindC c),.int .i64 (wOf c:Nat)] w fun e w'=>RdTo w r p n cp at_ en sz own (textR c (sOf B at_ en)) e w':=by
 have hl:(sOf B at_ en).length = en - at_:=sOf_len (by rw [h.len];exact h.hen)
 have hae:=h.ha
 have hen:=h.hen
 have hn:=h.hn
 have hBl:=h.len
 obtain ⟨hw1,hw4⟩:=wOf_bd c
 by_cases hs:en < at_+wOf c
 ·have e1:textR c (sOf B at_ en) = .error .short:=by unfold textR;rw [if_pos (by omega)]
  rw [e1]
  exact text_short1 _ _ w r p n cp at_ en sz own B h hs
 have htk:beVal ((sOf B at_ en).take (wOf c)) = nAt B at_ (wOf c):=by unfold nAt;rw [sOf_take (by omega)]
 unfold textR
 rw [htk,if_neg (by omega:¬ (sOf B at_ en).length < wOf c)]
 obtain ⟨N,hN⟩:∃ N,nAt B at_ (wOf c) = N:=⟨_,rfl⟩
 obtain ⟨a1,ha1⟩:∃ a1,at_+wOf c = a1:=⟨_,rfl⟩
 rw [hN]
 by_cases hs2:en < a1+N
 ·rw [if_pos (by omega)]
  exact text_short2 _ _ w r p n cp at_ en sz own B h hw1 hw4 N a1 hN ha1 (by omega) hs2
 have htx:txB (((sOf B at_ en).drop (wOf c)).take N) = ⟨((B.drop a1).take N).toArray⟩:=by
  rw [sOf_drop,ha1,sOf_take (by omega)];rfl
 rw [if_neg (by omega),htx]
 have hsz:(⟨((B.drop a1).take N).toArray⟩:ByteArray).size = N:=by show ((B.drop a1).take N).toArray.size = N;simp;omega
 have hml:(⟨((B.drop a1).take N).toArray⟩:ByteArray).size <= maxLen:=by rw [hsz];unfold maxLen;omega
 obtain ⟨S,hS⟩:∃ S,(⟨((B.drop a1).take N).toArray⟩:ByteArray) = S:=⟨_,rfl⟩
 have hok:∀ K:Int,((a1:Int)+(N:Nat)) = (at_+(wOf c+N):Nat):=fun K=>by omega
 rcases codes_text c hc hk with rfl|rfl|rfl|rfl|rfl|rfl
 ·have hk0:kindC 160 = 18:=rfl
  have hw0:wOf 160 = 1:=rfl
  rw [hk0,hw0]
  rw [hw0] at hN ha1 hok hw1 hw4
  have hb0:badT 18 ⟨((B.drop a1).take N).toArray⟩ = -1:=rfl
  rw [hb0,if_neg (by omega)]
  refine (text_18 1 w r p n cp at_ en sz own B h hw1 hw4 N a1 hN ha1 (by omega)).mono ?_
  rintro e w' ⟨rfl,hmv⟩
  exact RdTo.of_text ⟨by omega,by omega⟩ hml (hmv.eq (hok 0))
 ·have hk0:kindC 161 = 19:=rfl
  have hw0:wOf 161 = 1:=rfl
  rw [hk0,hw0]
  rw [hw0] at hN ha1 hok hw1 hw4
  have hb0:badT 19 ⟨((B.drop a1).take N).toArray⟩ = utf8S ⟨((B.drop a1).take N).toArray⟩:=rfl
  rw [hb0]
  obtain ⟨bad,hbad⟩:∃ bad,utf8S ⟨((B.drop a1).take N).toArray⟩ = bad:=⟨_,rfl⟩
  have hbd:-1 <= bad∧bad <= ((⟨((B.drop a1).take N).toArray⟩:ByteArray).size:Int):=by rw [← hbad];exact utf8F_bd _ _ _
  rw [hsz] at hbd
  rw [hbad]
  by_cases hb:(0:Int) <= bad
  ·rw [if_pos hb]
   refine (text_19x 1 w r p n cp at_ en sz own B h hw1 hw4 N a1 hN ha1 (by omega) bad hbad (by simp;omega) (by omega)).mono ?_
   rintro e w' ⟨rfl,hk⟩
   exact RdTo.of_pl (by omega) rfl hk
  ·rw [if_neg hb]
   refine (text_19 1 w r p n cp at_ en sz own B h hw1 hw4 N a1 hN ha1 (by omega) bad hbad (by simp;omega)).mono ?_
   rintro e w' ⟨rfl,hmv⟩
   exact RdTo.of_text ⟨by omega,by omega⟩ hml (hmv.eq (hok 0))
 ·have hk0:kindC 163 = 20:=rfl
  have hw0:wOf 163 = 1:=rfl
  rw [hk0,hw0]
  rw [hw0] at hN ha1 hok hw1 hw4
  have hb0:badT 20 ⟨((B.drop a1).take N).toArray⟩ = asciiS ⟨((B.drop a1).take N).toArray⟩:=rfl
  rw [hb0]
  obtain ⟨bad,hbad⟩:∃ bad,asciiS ⟨((B.drop a1).take N).toArray⟩ = bad:=⟨_,rfl⟩
  have hbd:-1 <= bad∧bad <= ((⟨((B.drop a1).take N).toArray⟩:ByteArray).size:Int):=by rw [← hbad];exact asciiF_bd _ _ _
  rw [hsz] at hbd
  rw [hbad]
  by_cases hb:(0:Int) <= bad
  ·rw [if_pos hb]
   refine (text_20x 1 w r p n cp at_ en sz own B h hw1 hw4 N a1 hN ha1 (by omega) bad hbad (by simp;omega) (by omega)).mono ?_
   rintro e w' ⟨rfl,hk⟩
   exact RdTo.of_pl (by omega) rfl hk
  ·rw [if_neg hb]
   refine (text_20 1 w r p n cp at_ en sz own B h hw1 hw4 N a1 hN ha1 (by omega) bad hbad (by simp;omega)).mono ?_
   rintro e w' ⟨rfl,hmv⟩
   exact RdTo.of_text ⟨by omega,by omega⟩ hml (hmv.eq (hok 0))
 ·have hk0:kindC 176 = 18:=rfl
  have hw0:wOf 176 = 4:=rfl
  rw [hk0,hw0]
  rw [hw0] at hN ha1 hok hw1 hw4
  have hb0:badT 18 ⟨((B.drop a1).take N).toArray⟩ = -1:=rfl
  rw [hb0,if_neg (by omega)]
  refine (text_18 4 w r p n cp at_ en sz own B h hw1 hw4 N a1 hN ha1 (by omega)).mono ?_
  rintro e w' ⟨rfl,hmv⟩
  exact RdTo.of_text ⟨by omega,by omega⟩ hml (hmv.eq (hok 0))
 ·have hk0:kindC 177 = 19:=rfl
  have hw0:wOf 177 = 4:=rfl
  rw [hk0,hw0]
  rw [hw0] at hN ha1 hok hw1 hw4
  have hb0:badT 19 ⟨((B.drop a1).take N).toArray⟩ = utf8S ⟨((B.drop a1).take N).toArray⟩:=rfl
  rw [hb0]
  obtain ⟨bad,hbad⟩:∃ bad,utf8S ⟨((B.drop a1).take N).toArray⟩ = bad:=⟨_,rfl⟩
  have hbd:-1 <= bad∧bad <= ((⟨((B.drop a1).take N).toArray⟩:ByteArray).size:Int):=by rw [← hbad];exact utf8F_bd _ _ _
  rw [hsz] at hbd
  rw [hbad]
  by_cases hb:(0:Int) <= bad
  ·rw [if_pos hb]
   refine (text_19x 4 w r p n cp at_ en sz own B h hw1 hw4 N a1 hN ha1 (by omega) bad hbad (by simp;omega) (by omega)).mono ?_
   rintro e w' ⟨rfl,hk⟩
   exact RdTo.of_pl (by omega) rfl hk
  ·rw [if_neg hb]
   refine (text_19 4 w r p n cp at_ en sz own B h hw1 hw4 N a1 hN ha1 (by omega) bad hbad (by simp;omega)).mono ?_
   rintro e w' ⟨rfl,hmv⟩
   exact RdTo.of_text ⟨by omega,by omega⟩ hml (hmv.eq (hok 0))
 have hk0:kindC 179 = 20:=rfl
 have hw0:wOf 179 = 4:=rfl
 rw [hk0,hw0]
 rw [hw0] at hN ha1 hok hw1 hw4
 have hb0:badT 20 ⟨((B.drop a1).take N).toArray⟩ = asciiS ⟨((B.drop a1).take N).toArray⟩:=rfl
 rw [hb0]
 obtain ⟨bad,hbad⟩:∃ bad,asciiS ⟨((B.drop a1).take N).toArray⟩ = bad:=⟨_,rfl⟩
 have hbd:-1 <= bad∧bad <= ((⟨((B.drop a1).take N).toArray⟩:ByteArray).size:Int):=by rw [← hbad];exact asciiF_bd _ _ _
 rw [hsz] at hbd
 rw [hbad]
 by_cases hb:(0:Int) <= bad
 ·rw [if_pos hb]
  refine (text_20x 4 w r p n cp at_ en sz own B h hw1 hw4 N a1 hN ha1 (by omega) bad hbad (by simp;omega) (by omega)).mono ?_
  rintro e w' ⟨rfl,hk⟩
  exact RdTo.of_pl (by omega) rfl hk
 rw [if_neg hb]
 refine (text_20 4 w r p n cp at_ en sz own B h hw1 hw4 N a1 hN ha1 (by omega) bad hbad (by simp;omega)).mono ?_
 rintro e w' ⟨rfl,hmv⟩
 exact RdTo.of_text ⟨by omega,by omega⟩ hml (hmv.eq (hok 0))

attribute [local go_sem] Oper.semAt_some

theorem mrg_data_ta0 (o d:Int) (x:Res) (w:World) (r:Nat) (p:Option Addr) (n cp at_ en:Nat) (sz own:Int) (B:List UInt8) (h:RdIn w r p n cp at_ en sz B):(∀ (hx:∀ W,RdIn W r p n cp at_ en sz B -> Calls prog 81 #[.pointer (some ⟨r,0,none⟩),.int .i64 18,.int .i64 1] W fun e w'=>RdTo W r p n cp at_ en sz own x e w'),Calls prog 58 #[.pointer (some ⟨r,0,none⟩),.int .u8 (160),.int .i64 o,.int .i64 d] w fun e w'=>RdTo w r p n cp at_ en sz own x e w') ∧
  (∀ (hx:∀ W,RdIn W r p n cp at_ en sz B -> Calls prog 81 #[.pointer (some ⟨r,0,none⟩),.int .i64 19,.int .i64 1] W fun e w'=>RdTo W r p n cp at_ en sz own x e w'),Calls prog 58 #[.pointer (some ⟨r,0,none⟩),.int .u8 (161),.int .i64 o,.int .i64 d] w fun e w'=>RdTo w r p n cp at_ en sz own x e w') ∧
  (∀ (hx:∀ W,RdIn W r p n cp at_ en sz B -> Calls prog 81 #[.pointer (some ⟨r,0,none⟩),.int .i64 20,.int .i64 1] W fun e w'=>RdTo W r p n cp at_ en sz own x e w'),Calls prog 58 #[.pointer (some ⟨r,0,none⟩),.int .u8 (163),.int .i64 o,.int .i64 d] w fun e w'=>RdTo w r p n cp at_ en sz own x e w') ∧
  (∀ (hx:∀ W,RdIn W r p n cp at_ en sz B -> Calls prog 81 #[.pointer (some ⟨r,0,none⟩),.int .i64 18,.int .i64 4] W fun e w'=>RdTo W r p n cp at_ en sz own x e w'),Calls prog 58 #[.pointer (some ⟨r,0,none⟩),.int .u8 (176),.int .i64 o,.int .i64 d] w fun e w'=>RdTo w r p n cp at_ en sz own x e w') ∧
  (∀ (hx:∀ W,RdIn W r p n cp at_ en sz B -> Calls prog 81 #[.pointer (some ⟨r,0,none⟩),.int .i64 19,.int .i64 4] W fun e w'=>RdTo W r p n cp at_ en sz own x e w'),Calls prog 58 #[.pointer (some ⟨r,0,none⟩),.int .u8 (177),.int .i64 o,.int .i64 d] w fun e w'=>RdTo w r p n cp at_ en sz own x e w') ∧
  (∀ (hx:∀ W,RdIn W r p n cp at_ en sz B -> Calls prog 81 #[.pointer (some ⟨r,0,none⟩),.int .i64 20,.int .i64 4] W fun e w'=>RdTo W r p n cp at_ en sz own x e w'),Calls prog 58 #[.pointer (some ⟨r,0,none⟩),.int .u8 (179),.int .i64 o,.int .i64 d] w fun e w'=>RdTo w r p n cp at_ en sz own x e w') ∧
  (∀ (hx:∀ W,RdIn W r p n cp at_ en sz B -> Calls prog 82 #[.pointer (some ⟨r,0,none⟩),.int .i64 21,.int .i64 1,.int .i64 o,.int .i64 d] W fun e w'=>RdTo W r p n cp at_ en sz own x e w'),Calls prog 58 #[.pointer (some ⟨r,0,none⟩),.int .u8 (192),.int .i64 o,.int .i64 d] w fun e w'=>RdTo w r p n cp at_ en sz own x e w') ∧
  (∀ (hx:∀ W,RdIn W r p n cp at_ en sz B -> Calls prog 82 #[.pointer (some ⟨r,0,none⟩),.int .i64 22,.int .i64 1,.int .i64 o,.int .i64 d] W fun e w'=>RdTo W r p n cp at_ en sz own x e w'),Calls prog 58 #[.pointer (some ⟨r,0,none⟩),.int .u8 (193),.int .i64 o,.int .i64 d] w fun e w'=>RdTo w r p n cp at_ en sz own x e w'):=by
 refine ⟨?_,?_,?_,?_,?_,?_,?_,?_⟩
 all_goals intro hx
 have HK:=zH (show ∀ W,Calls prog 57 #[.int .u8 (160)] W fun e w'=>e = .returned (.int .i64 18)∧W = w' from fun W=>kind_any 160 W)
 rotate_left
 have HK:=zH (show ∀ W,Calls prog 57 #[.int .u8 (161)] W fun e w'=>e = .returned (.int .i64 19)∧W = w' from fun W=>kind_any 161 W)
 rotate_left
 have HK:=zH (show ∀ W,Calls prog 57 #[.int .u8 (163)] W fun e w'=>e = .returned (.int .i64 20)∧W = w' from fun W=>kind_any 163 W)
 rotate_left
 have HK:=zH (show ∀ W,Calls prog 57 #[.int .u8 (176)] W fun e w'=>e = .returned (.int .i64 18)∧W = w' from fun W=>kind_any 176 W)
 rotate_left
 have HK:=zH (show ∀ W,Calls prog 57 #[.int .u8 (177)] W fun e w'=>e = .returned (.int .i64 19)∧W = w' from fun W=>kind_any 177 W)
 rotate_left
 have HK:=zH (show ∀ W,Calls prog 57 #[.int .u8 (179)] W fun e w'=>e = .returned (.int .i64 20)∧W = w' from fun W=>kind_any 179 W)
 rotate_left
 have HK:=zH (show ∀ W,Calls prog 57 #[.int .u8 (192)] W fun e w'=>e = .returned (.int .i64 21)∧W = w' from fun W=>kind_any 192 W)
 rotate_left
 have HK:=zH (show ∀ W,Calls prog 57 #[.int .u8 (193)] W fun e w'=>e = .returned (.int .i64 22)∧W = w' from fun W=>kind_any 193 W)
 rotate_left
 all_goals
  have HX:=zH hx
  clear hx
  go_enter func58,ntmps58
  go_upto_region 1 with fail
  have hb0:Below w.heap.size w (w.alloc (.cells zR 25)):=((Below.refl _ _).alloc (Nat.le_refl _) _)
  have oy:=zN w (.cells zR 25)
  generalize (w.alloc (.cells zR 25)) = w0 at *
  obtain ⟨y,hy⟩:∃ y,w.heap.size = y:=⟨_,rfl⟩
  rw [hy] at oy ⊢
  have HR0:=zH (h.blw hb0)
  have HB0:=zH (And.intro hb0 (And.intro hy oy))
  have hlt:=zH h.lt
  clear hb0 hy oy h
  go_wp2_with fail
  refine (HK.out _).mono ?_
  rintro e w1 ⟨rfl,rfl⟩
  go_wp2_with fail
  refine (HX.out _ HR0.out).mono ?_
  rintro e w3 hto
  rcases x with y1|⟨v,k⟩
  ·obtain ⟨rfl,hk⟩:=hto
   exact ⟨rfl,rfl,(KeepF.of_below HB0.out.1).trans hk⟩
  obtain ⟨s,F,rfl,hvo,hmv⟩:=hto
  obtain ⟨ps,cs,hss,_,_⟩:=hvo.slice
  subst hss
  have oy3:=(hmv.keep.block y (gl HB0.out.2.2) (fun e=>by have:=hlt.out;have:=HB0.out.2.1;omega)).trans HB0.out.2.2
  have HV:=zH (And.intro hvo (And.intro hmv oy3))
  clear hvo hmv
 focus
  go_wp2_with (refine stV (.tmp 8) (.tmp 36) rfl rfl rfl rfl rfl oy3 rfl ?_)
 rotate_left
 focus
  go_wp2_with (refine stV (.tmp 8) (.tmp 36) rfl rfl rfl rfl rfl oy3 rfl ?_)
 rotate_left
 focus
  go_wp2_with (refine stV (.tmp 8) (.tmp 36) rfl rfl rfl rfl rfl oy3 rfl ?_)
 rotate_left
 focus
  go_wp2_with (refine stV (.tmp 8) (.tmp 36) rfl rfl rfl rfl rfl oy3 rfl ?_)
 rotate_left
 focus
  go_wp2_with (refine stV (.tmp 8) (.tmp 36) rfl rfl rfl rfl rfl oy3 rfl ?_)
 rotate_left
 focus
  go_wp2_with (refine stV (.tmp 8) (.tmp 36) rfl rfl rfl rfl rfl oy3 rfl ?_)
 rotate_left
 focus
  go_wp2_with (refine stV (.tmp 8) (.tmp 43) rfl rfl rfl rfl rfl oy3 rfl ?_)
 rotate_left
 focus
  go_wp2_with (refine stV (.tmp 8) (.tmp 43) rfl rfl rfl rfl rfl oy3 rfl ?_)
 rotate_left
 all_goals
  have hh:=setRow_heap w3 y _ #[.int .i64 v.kind,.int .u64 v.num,.string v.text,.slice ps v.list.length cs,.int .i64 v.elem] _ _ HV.out.2.2
  refine bodyPost_ret (results_cell_row (p:=8) (ty:=25) (by kernel_rfl) _ _ y 25 #[.int .i64 v.kind,.int .u64 v.num,.string v.text,.slice ps v.list.length cs,.int .i64 v.elem] (0,0) _ rfl hh underlying25 rfl (by as_aux_lemma=>kernel_rfl)) rfl ?_
  have hy0:=HB0.out.2.1
  have hy1:=(gl HB0.out.2.2)
  have hkk:=(KeepF.of_below HB0.out.1).trans HV.out.2.1.keep
  have hyr:r ≠ y:=fun e=>by have:=hlt.out;omega
  exact ⟨_,F,rfl,(HV.out.1.mono HB0.out.1.size).keep (fun b hb=>setRow_other w3 y b _ (fun e=>by have:=(HV.out.1.lt b hb).1;omega)),⟨⟨hkk.os,hkk.tape,hkk.output,Nat.le_trans hkk.size (by simp),fun j hj hne=>(setRow_other w3 y j _ (fun e=>by omega)).trans (hkk.block j hj hne)⟩,(setRow_other w3 y r _ hyr).trans HV.out.2.1.at_⟩⟩
def data_ta0:=fun o d x w r p n cp at_ en sz own B h=>(mrg_data_ta0 o d x w r p n cp at_ en sz own B h).1
def data_ta1:=fun o d x w r p n cp at_ en sz own B h=>(mrg_data_ta0 o d x w r p n cp at_ en sz own B h).2.1
def data_ta3:=fun o d x w r p n cp at_ en sz own B h=>(mrg_data_ta0 o d x w r p n cp at_ en sz own B h).2.2.1
def data_tb0:=fun o d x w r p n cp at_ en sz own B h=>(mrg_data_ta0 o d x w r p n cp at_ en sz own B h).2.2.2.1
def data_tb1:=fun o d x w r p n cp at_ en sz own B h=>(mrg_data_ta0 o d x w r p n cp at_ en sz own B h).2.2.2.2.1
def data_tb3:=fun o d x w r p n cp at_ en sz own B h=>(mrg_data_ta0 o d x w r p n cp at_ en sz own B h).2.2.2.2.2.1
def data_sc0:=fun o d x w r p n cp at_ en sz own B h=>(mrg_data_ta0 o d x w r p n cp at_ en sz own B h).2.2.2.2.2.2.1
def data_sc1:=fun o d x w r p n cp at_ en sz own B h=>(mrg_data_ta0 o d x w r p n cp at_ en sz own B h).2.2.2.2.2.2.2
theorem mrg_data_sd0 :(∀ (o d:Int) (x:Res) (w:World) (r:Nat) (p:Option Addr) (n cp at_ en:Nat) (sz own:Int) (B:List UInt8) (h:RdIn w r p n cp at_ en sz B) (hx:∀ W,RdIn W r p n cp at_ en sz B -> Calls prog 82 #[.pointer (some ⟨r,0,none⟩),.int .i64 21,.int .i64 4,.int .i64 o,.int .i64 d] W fun e w'=>RdTo W r p n cp at_ en sz own x e w'),Calls prog 58 #[.pointer (some ⟨r,0,none⟩),.int .u8 (208),.int .i64 o,.int .i64 d] w fun e w'=>RdTo w r p n cp at_ en sz own x e w') ∧
  (∀ (o d:Int) (x:Res) (w:World) (r:Nat) (p:Option Addr) (n cp at_ en:Nat) (sz own:Int) (B:List UInt8) (h:RdIn w r p n cp at_ en sz B) (hx:∀ W,RdIn W r p n cp at_ en sz B -> Calls prog 82 #[.pointer (some ⟨r,0,none⟩),.int .i64 22,.int .i64 4,.int .i64 o,.int .i64 d] W fun e w'=>RdTo W r p n cp at_ en sz own x e w'),Calls prog 58 #[.pointer (some ⟨r,0,none⟩),.int .u8 (209),.int .i64 o,.int .i64 d] w fun e w'=>RdTo w r p n cp at_ en sz own x e w') ∧
  (∀ (o d:Int) (x:Res) (w:World) (r:Nat) (p:Option Addr) (n cp at_ en:Nat) (sz own:Int) (B:List UInt8) (h:RdIn w r p n cp at_ en sz B) (hx:∀ W,RdIn W r p n cp at_ en sz B -> Calls prog 83 #[.pointer (some ⟨r,0,none⟩),.int .i64 1,.int .i64 d] W fun e w'=>RdTo W r p n cp at_ en sz own x e w'),Calls prog 58 #[.pointer (some ⟨r,0,none⟩),.int .u8 (224),.int .i64 o,.int .i64 d] w fun e w'=>RdTo w r p n cp at_ en sz own x e w') ∧
  (∀ (o d:Int) (x:Res) (w:World) (r:Nat) (p:Option Addr) (n cp at_ en:Nat) (sz own:Int) (B:List UInt8) (h:RdIn w r p n cp at_ en sz B) (hx:∀ W,RdIn W r p n cp at_ en sz B -> Calls prog 83 #[.pointer (some ⟨r,0,none⟩),.int .i64 4,.int .i64 d] W fun e w'=>RdTo W r p n cp at_ en sz own x e w'),Calls prog 58 #[.pointer (some ⟨r,0,none⟩),.int .u8 (240),.int .i64 o,.int .i64 d] w fun e w'=>RdTo w r p n cp at_ en sz own x e w') ∧
  (∀ (c:Nat) (o d:Int) (x:Res) (w:World) (r:Nat) (p:Option Addr) (n cp at_ en:Nat) (sz own:Int) (B:List UInt8) (h:RdIn w r p n cp at_ en sz B) (hx:∀ W,RdIn W r p n cp at_ en sz B -> Calls prog 84 #[.pointer (some ⟨r,0,none⟩),.int .u8 (c:Nat)] W fun e w'=>RdTo W r p n cp at_ en sz own x e w') (hc:c < 144),Calls prog 58 #[.pointer (some ⟨r,0,none⟩),.int .u8 ((c:Nat)),.int .i64 o,.int .i64 d] w fun e w'=>RdTo w r p n cp at_ en sz own x e w'):=by
 refine ⟨?_,?_,?_,?_,?_⟩
 intro o d x w r p n cp at_ en sz own B h hx
 have HK:=zH (show ∀ W,Calls prog 57 #[.int .u8 (208)] W fun e w'=>e = .returned (.int .i64 21)∧W = w' from fun W=>kind_any 208 W)
 rotate_left
 intro o d x w r p n cp at_ en sz own B h hx
 have HK:=zH (show ∀ W,Calls prog 57 #[.int .u8 (209)] W fun e w'=>e = .returned (.int .i64 22)∧W = w' from fun W=>kind_any 209 W)
 rotate_left
 intro o d x w r p n cp at_ en sz own B h hx
 rotate_left
 intro o d x w r p n cp at_ en sz own B h hx
 rotate_left
 intro c o d x w r p n cp at_ en sz own B h hx hc
 rotate_left
 all_goals
  have HX:=zH hx
  clear hx
 rotate_left 4
 have n176:(((c:Nat):Int) == 176) = false:=by simp;omega
 have n177:(((c:Nat):Int) == 177) = false:=by simp;omega
 have n179:(((c:Nat):Int) == 179) = false:=by simp;omega
 have n160:(((c:Nat):Int) == 160) = false:=by simp;omega
 have n161:(((c:Nat):Int) == 161) = false:=by simp;omega
 have n163:(((c:Nat):Int) == 163) = false:=by simp;omega
 have n208:(((c:Nat):Int) == 208) = false:=by simp;omega
 have n209:(((c:Nat):Int) == 209) = false:=by simp;omega
 have n192:(((c:Nat):Int) == 192) = false:=by simp;omega
 have n193:(((c:Nat):Int) == 193) = false:=by simp;omega
 have n240:(((c:Nat):Int) == 240) = false:=by simp;omega
 have n224:(((c:Nat):Int) == 224) = false:=by simp;omega
 have n148:(((c:Nat):Int) == 148) = false:=by simp;omega
 have n152:(((c:Nat):Int) == 152) = false:=by simp;omega
 clear hc
 rotate_left
 all_goals
  go_enter func58,ntmps58
  go_upto_region 1 with fail
  have hb0:Below w.heap.size w (w.alloc (.cells zR 25)):=((Below.refl _ _).alloc (Nat.le_refl _) _)
  have oy:=zN w (.cells zR 25)
  generalize (w.alloc (.cells zR 25)) = w0 at *
  obtain ⟨y,hy⟩:∃ y,w.heap.size = y:=⟨_,rfl⟩
  rw [hy] at oy ⊢
  have HR0:=zH (h.blw hb0)
  have HB0:=zH (And.intro hb0 (And.intro hy oy))
  have hlt:=zH h.lt
  clear hb0 hy oy h
  go_wp2_with fail
 focus
  refine (HK.out _).mono ?_
  rintro e w1 ⟨rfl,rfl⟩
  go_wp2_with fail
 rotate_left
 focus
  refine (HK.out _).mono ?_
  rintro e w1 ⟨rfl,rfl⟩
  go_wp2_with fail
 rotate_left 4
 all_goals
  refine (HX.out _ HR0.out).mono ?_
  rintro e w3 hto
  rcases x with y1|⟨v,k⟩
  ·obtain ⟨rfl,hk⟩:=hto
   exact ⟨rfl,rfl,(KeepF.of_below HB0.out.1).trans hk⟩
  obtain ⟨s,F,rfl,hvo,hmv⟩:=hto
  obtain ⟨ps,cs,hss,_,_⟩:=hvo.slice
  subst hss
  have oy3:=(hmv.keep.block y (gl HB0.out.2.2) (fun e=>by have:=hlt.out;have:=HB0.out.2.1;omega)).trans HB0.out.2.2
  have HV:=zH (And.intro hvo (And.intro hmv oy3))
  clear hvo hmv
 focus
  go_wp2_with (refine stV (.tmp 8) (.tmp 43) rfl rfl rfl rfl rfl oy3 rfl ?_)
 rotate_left
 focus
  go_wp2_with (refine stV (.tmp 8) (.tmp 43) rfl rfl rfl rfl rfl oy3 rfl ?_)
 rotate_left
 focus
  go_wp2_with (refine stV (.tmp 8) (.tmp 47) rfl rfl rfl rfl rfl oy3 rfl ?_)
 rotate_left
 focus
  go_wp2_with (refine stV (.tmp 8) (.tmp 47) rfl rfl rfl rfl rfl oy3 rfl ?_)
 rotate_left
 focus
  go_wp2_with (refine stV (.tmp 8) (.tmp 77) rfl rfl rfl rfl rfl oy3 rfl ?_)
 rotate_left
 all_goals
  have hh:=setRow_heap w3 y _ #[.int .i64 v.kind,.int .u64 v.num,.string v.text,.slice ps v.list.length cs,.int .i64 v.elem] _ _ HV.out.2.2
  refine bodyPost_ret (results_cell_row (p:=8) (ty:=25) (by kernel_rfl) _ _ y 25 #[.int .i64 v.kind,.int .u64 v.num,.string v.text,.slice ps v.list.length cs,.int .i64 v.elem] (0,0) _ rfl hh underlying25 rfl (by as_aux_lemma=>kernel_rfl)) rfl ?_
  have hy0:=HB0.out.2.1
  have hy1:=(gl HB0.out.2.2)
  have hkk:=(KeepF.of_below HB0.out.1).trans HV.out.2.1.keep
  have hyr:r ≠ y:=fun e=>by have:=hlt.out;omega
  exact ⟨_,F,rfl,(HV.out.1.mono HB0.out.1.size).keep (fun b hb=>setRow_other w3 y b _ (fun e=>by have:=(HV.out.1.lt b hb).1;omega)),⟨⟨hkk.os,hkk.tape,hkk.output,Nat.le_trans hkk.size (by simp),fun j hj hne=>(setRow_other w3 y j _ (fun e=>by omega)).trans (hkk.block j hj hne)⟩,(setRow_other w3 y r _ hyr).trans HV.out.2.1.at_⟩⟩
def data_sd0:=mrg_data_sd0.1
def data_sd1:=mrg_data_sd0.2.1
def data_ae0:=mrg_data_sd0.2.2.1
def data_af0:=mrg_data_sd0.2.2.2.1
def data_fixed:=mrg_data_sd0.2.2.2.2

attribute [local go_sem] Oper.semAt_some

theorem mrg_raw_94_short (o d:Int) (w:World) (r:Nat) (p:Option Addr) (n cp at_ en:Nat) (sz own:Int) (B:List UInt8) (h:RdIn w r p n cp at_ en sz B) (hs:en < at_+16):(Calls prog 58 #[.pointer (some ⟨r,0,none⟩),.int .u8 148,.int .i64 o,.int .i64 d] w fun e w'=>e = faultE (shP n sz) (shC sz)∧KeepF (fun g=>g = r) w w') ∧
  (Calls prog 58 #[.pointer (some ⟨r,0,none⟩),.int .u8 152,.int .i64 o,.int .i64 d] w fun e w'=>e = faultE (shP n sz) (shC sz)∧KeepF (fun g=>g = r) w w'):=by
 refine ⟨?_,?_⟩
 all_goals
  have HNE:=zH (show ∀ W,RdIn W r p n cp at_ en sz B -> Calls prog 56 #[.pointer (some ⟨r,0,none⟩),.int .i64 16] W fun e w'=>e = faultE (shP n sz) (shC sz)∧Below W.heap.size W w' from fun W hW=>need_bad W r p n cp at_ en sz hW.row 16 hW.ha hs (by have:=hW.hen;have:=hW.hn;omega) hW.hn)
  clear hs
  go_enter func58,ntmps58
  go_upto_region 1 with fail
  have hb0:Below w.heap.size w (w.alloc (.cells zR 25)):=((Below.refl _ _).alloc (Nat.le_refl _) _)
  have oy:=zN w (.cells zR 25)
  generalize (w.alloc (.cells zR 25)) = w0 at *
  obtain ⟨y,hy⟩:∃ y,w.heap.size = y:=⟨_,rfl⟩
  rw [hy] at oy ⊢
  have HR0:=zH (h.blw hb0)
  have HB0:=zH (And.intro hb0 (And.intro hy oy))
  have hlt:=zH h.lt
  clear hb0 hy oy h
  go_wp2_with fail
  refine (HNE.out _ HR0.out).mono ?_
  rintro e w4 ⟨rfl,hb4⟩
  exact ⟨rfl,rfl,(KeepF.of_below HB0.out.1).trans (KeepF.of_below hb4)⟩
def raw_94_short:=fun o d w r p n cp at_ en sz own B h hs=>(mrg_raw_94_short o d w r p n cp at_ en sz own B h hs).1
def raw_98_short:=fun o d w r p n cp at_ en sz own B h hs=>(mrg_raw_94_short o d w r p n cp at_ en sz own B h hs).2
theorem mrg_raw_94 (o d:Int) (w:World) (r:Nat) (p:Option Addr) (n cp at_ en:Nat) (sz own:Int) (B:List UInt8) (h:RdIn w r p n cp at_ en sz B) (hs:at_+16 <= en):(Calls prog 58 #[.pointer (some ⟨r,0,none⟩),.int .u8 148,.int .i64 o,.int .i64 d] w fun e w'=>e = .returned (.agg #[.int .i64 14,.int .u64 0,.string ⟨((B.drop at_).take 16).toArray⟩,.slice none 0 0,.int .i64 0])∧RdMv w w' r #[.slice p n cp,.int .i64 (at_+16:Nat),.int .i64 (en:Nat),.int .i64 sz]) ∧
  (Calls prog 58 #[.pointer (some ⟨r,0,none⟩),.int .u8 152,.int .i64 o,.int .i64 d] w fun e w'=>e = .returned (.agg #[.int .i64 17,.int .u64 0,.string ⟨((B.drop at_).take 16).toArray⟩,.slice none 0 0,.int .i64 0])∧RdMv w w' r #[.slice p n cp,.int .i64 (at_+16:Nat),.int .i64 (en:Nat),.int .i64 sz]):=by
 refine ⟨?_,?_⟩
 have HK:=zH (show ∀ W,Calls prog 57 #[.int .u8 148] W fun e w'=>e = .returned (.int .i64 14)∧W = w' from fun W=>kind_any 148 W)
 rotate_left
 have HK:=zH (show ∀ W,Calls prog 57 #[.int .u8 152] W fun e w'=>e = .returned (.int .i64 17)∧W = w' from fun W=>kind_any 152 W)
 rotate_left
 all_goals
  have HNE:=zH (show ∀ W,RdIn W r p n cp at_ en sz B -> Calls prog 56 #[.pointer (some ⟨r,0,none⟩),.int .i64 16] W fun e w'=>e = .returned (.tuple #[])∧Below W.heap.size W w' from fun W hW=>need_ok W r p n cp at_ en sz hW.row 16 hW.ha hs (by have:=hW.hen;have:=hW.hn;omega))
  obtain ⟨a2,ha2⟩:∃ a2,at_+16 = a2:=⟨_,rfl⟩
  have HV:=zH (show ∀ W,RdIn W r p n cp a2 en sz B -> (convert 28 9 (.slice (if cp = at_ then p else p.map (fun x=>x.add at_)) 16 (cp - at_))).run prog W = .ok (.string ⟨((B.drop at_).take 16).toArray⟩) W from fun W hW=>run_string_bytes W _ _ 5 underlying28 underlying5 underlying9 _ _ _ _ (hW.src.bytes.part at_ 16 (by have:=hW.hen;omega)))
  rw [ha2] at hs ⊢
  have ha2':=zH (And.intro ha2 hs)
  have hle:=h.src.bytes.le
  have hen:=h.hen
  have hn:=h.hn
  have ib1:(0:Int) <= (at_:Nat):=by omega
  have ib2:((at_:Nat):Int) <= (a2:Nat):=by omega
  have ib3:((a2:Nat):Int) <= (cp:Nat):=by omega
  have ib5:a2 - at_ = 16:=by omega
  have ib4:((a2:Nat):Int) <= 140737488355328:=by omega
  have hadd:IntKind.i64.wrap ((at_:Int)+16) = (a2:Nat):=by rw [IntWalk.i64_in _ (by omega)];omega
  have hsub:IntKind.i64.wrap ((a2:Int) - 16) = (at_:Nat):=by rw [IntWalk.i64_in _ (by omega)];omega
  clear hs hle hen hn
  go_enter func58,ntmps58
  go_upto_region 1 with fail
  have hb0:Below w.heap.size w (w.alloc (.cells zR 25)):=((Below.refl _ _).alloc (Nat.le_refl _) _)
  have oy:=zN w (.cells zR 25)
  generalize (w.alloc (.cells zR 25)) = w0 at *
  obtain ⟨y,hy⟩:∃ y,w.heap.size = y:=⟨_,rfl⟩
  rw [hy] at oy ⊢
  have HR0:=zH (h.blw hb0)
  have HB0:=zH (And.intro hb0 (And.intro hy oy))
  have hlt:=zH h.lt
  clear hb0 hy oy h ha2
  go_wp2_with fail
  refine (HNE.out _ HR0.out).mono ?_
  rintro e w4 ⟨rfl,hb4⟩
  have HR4:=zH (HR0.out.blw hb4)
  have oy4:=(hb4.block y (gl HB0.out.2.2)).trans HB0.out.2.2
  have r1:w4.cell? ⟨r,1,none⟩ = some (.int .i64 (at_:Nat)):=(cell_of_row _ _ 1 _ _ _ HR4.out.row).trans rfl
  have fr:w4.frozen? ⟨r,1,none⟩ = false:=by simp [World.frozen?,HR4.out.row]
  have HB4:=zH (And.intro hb4 oy4)
  clear hb4 oy4
  go_upto_region 25 with fail
  have hyr0:y ≠ r:=fun e=>by have:=hlt.out;have:=HB0.out.2.1;omega
  have or5:=heap_setCell_same w4 r 1 _ _ (.int .i64 (a2:Nat)) HR4.out.row
  have oy5:(w4.setCell ⟨r,1,none⟩ (.int .i64 (a2:Nat))).heap[y]? = some (.cells zR 25 (0,0)):=(set_farV hyr0).trans HB4.out.2
  have hk5:KeepF (fun g=>g = r) w4 (w4.setCell ⟨r,1,none⟩ (.int .i64 (a2:Nat))):=⟨rfl,rfl,rfl,by simp,fun j hj hne=>set_farV hne⟩
  change Code.wp _ _ _ _ (w4.setCell ⟨r,1,none⟩ (.int .i64 (a2:Nat)))
  generalize w4.setCell ⟨r,1,none⟩ (.int .i64 (a2:Nat)) = w5 at *
  have HR5:=zH (HR4.out.mv ⟨hk5,or5⟩ ha2'.out.2)
  have HM5:=zH (((KeepF.of_below HB0.out.1).trans (KeepF.of_below HB4.out.1)).trans hk5)
  have HO5:=zH (show w5.drew.heap[y]? = some (.cells zR 25 (0,0)) from oy5)
  clear or5 oy5 hk5 hyr0 r1 fr hadd
  refine wp_region_heldN (fun V=>RdIn V r p n cp a2 en sz B) 19 rfl (by kernel_rfl) ?_
  have hS:RdIn w5.drew r p n cp a2 en sz B:=HR5.out.blw (bdrew (Below.refl _ _))
 focus
  refine tkI 0 (.int .u8 148) 57 rfl rfl (by kernel_rfl) (fun _ _ _=>id) (by rfl) (by rintro V h0;go_simp) hS ?_
 rotate_left
 focus
  refine tkI 0 (.int .u8 152) 57 rfl rfl (by kernel_rfl) (fun _ _ _=>id) (by rfl) (by rintro V h0;go_simp) hS ?_
 rotate_left
 all_goals
  try simp only [Act.put,sA,sB,sC]
  refine tkI 2 (.pointer (some ⟨r,0,none⟩)) 59 rfl rfl (by kernel_rfl) (fun _ _ _=>id) (by rfl) (by rintro V h0;go_simp) hS ?_
  try simp only [Act.put,sA,sB,sC]
  refine tkI 3 (.pointer (some ⟨r,0,none⟩)) 60 rfl rfl (by kernel_rfl) (fun _ _ _=>id) (by rfl) (by rintro V h0;go_simp) hS ?_
  try simp only [Act.put,sA,sB,sC]
  refine tkI 4 (.pointer (some ⟨r,0,none⟩)) 61 rfl rfl (by kernel_rfl) (fun _ _ _=>id) (by rfl) (by rintro V h0;go_simp) hS ?_
  try simp only [Act.put,sA,sB,sC]
  refine tkI 5 (.slice p n cp) 62 rfl rfl (by kernel_rfl) (fun _ _ _=>id) (by rfl) (by rintro V h0;have y0:=(cell_of_row V _ 0 _ _ _ h0.row).trans rfl;have y1:=(cell_of_row V _ 1 _ _ _ h0.row).trans rfl;go_simp) hS ?_
  try simp only [Act.put,sA,sB,sC]
  refine tkI 6 (.pointer (some ⟨r,0,none⟩)) 63 rfl rfl (by kernel_rfl) (fun _ _ _=>id) (by rfl) (by rintro V h0;go_simp) hS ?_
  try simp only [Act.put,sA,sB,sC]
  refine tkI 7 (.pointer (some ⟨r,0,none⟩)) 64 rfl rfl (by kernel_rfl) (fun _ _ _=>id) (by rfl) (by rintro V h0;go_simp) hS ?_
  try simp only [Act.put,sA,sB,sC]
  refine tkI 8 (.pointer (some ⟨r,1,none⟩)) 65 rfl rfl (by kernel_rfl) (fun _ _ _=>id) (by rfl) (by rintro V h0;go_simp) hS ?_
  try simp only [Act.put,sA,sB,sC]
  refine tkI 9 (.int .i64 (a2:Nat)) 66 rfl rfl (by kernel_rfl) (fun _ _ _=>id) (by rfl) (by rintro V h0;have y0:=(cell_of_row V _ 0 _ _ _ h0.row).trans rfl;have y1:=(cell_of_row V _ 1 _ _ _ h0.row).trans rfl;go_simp) hS ?_
  try simp only [Act.put,sA,sB,sC]
  refine tkI 10 (.int .i64 (at_:Nat)) 67 rfl rfl (by kernel_rfl) (fun _ _ _=>id) (by rfl) (by rintro V h0;go_simp) hS ?_
  try simp only [Act.put,sA,sB,sC]
  refine tkI 11 (.pointer (some ⟨r,0,none⟩)) 68 rfl rfl (by kernel_rfl) (fun _ _ _=>id) (by rfl) (by rintro V h0;go_simp) hS ?_
  try simp only [Act.put,sA,sB,sC]
  refine tkI 12 (.pointer (some ⟨r,0,none⟩)) 69 rfl rfl (by kernel_rfl) (fun _ _ _=>id) (by rfl) (by rintro V h0;go_simp) hS ?_
  try simp only [Act.put,sA,sB,sC]
  refine tkI 13 (.pointer (some ⟨r,1,none⟩)) 70 rfl rfl (by kernel_rfl) (fun _ _ _=>id) (by rfl) (by rintro V h0;go_simp) hS ?_
  try simp only [Act.put,sA,sB,sC]
  refine tkI 14 (.int .i64 (a2:Nat)) 71 rfl rfl (by kernel_rfl) (fun _ _ _=>id) (by rfl) (by rintro V h0;have y0:=(cell_of_row V _ 0 _ _ _ h0.row).trans rfl;have y1:=(cell_of_row V _ 1 _ _ _ h0.row).trans rfl;go_simp) hS ?_
  try simp only [Act.put,sA,sB,sC]
  refine tkI 15 ((.slice (if cp = at_ then p else p.map (fun x=>x.add at_)) 16 (cp - at_))) 72 rfl rfl (by kernel_rfl) (fun _ _ _=>id) (by rfl) (by rintro V h0;go_simp <;> omega) hS ?_
  try simp only [Act.put,sA,sB,sC]
  refine tkI 16 (.string ⟨((B.drop at_).take 16).toArray⟩) 73 rfl rfl (by kernel_rfl) (fun _ _ _=>id) (by rfl) (by rintro V h0;have z5:=HV.out V h0;go_simp) hS ?_
  try simp only [Act.put,sA,sB,sC]
  refine oneH (i:=1) (by kernel_rfl) ?_
  refine stepD (i:=1) rfl (by rfl) (fun K5 h5=>?_)
  go_simp
  (with_reducible refine (HK.out w5.drew).mono ?_)
  rintro e w6 ⟨rfl,rfl⟩
  refine h5.out _ _ hS ?_
  clear h5
  try simp only [Act.put,sA,sB,sC]
 focus
  refine tkI 17 (.agg #[.int .i64 14,.int .u64 0,.string ⟨((B.drop at_).take 16).toArray⟩,.slice none 0 0,.int .i64 0]) 74 rfl rfl (by kernel_rfl) (fun _ _ _=>id) (by rfl) (by rintro V h0;go_simp) hS ?_
  try simp only [Act.put,sA,sB,sC]
  have hh:=setRow_heap w5.drew y _ #[.int .i64 14,.int .u64 0,.string ⟨((B.drop at_).take 16).toArray⟩,.slice none 0 0,.int .i64 0] _ _ HO5.out
  have hyr:r ≠ y:=fun e=>by have:=hlt.out;have:=HB0.out.2.1;omega
  have hS3:RdIn (w5.drew.setRow y #[.int .i64 14,.int .u64 0,.string ⟨((B.drop at_).take 16).toArray⟩,.slice none 0 0,.int .i64 0]) r p n cp a2 en sz B:=⟨(setRow_other w5.drew y r _ hyr).trans hS.row,hS.src.keep ⟨rfl,rfl,rfl,by simp,fun j hj hne=>setRow_other w5.drew y j _ (fun e=>by have:=hlt.out;have:=HB0.out.2.1;omega)⟩,hS.ha,hS.hen,hS.hn⟩
 rotate_left
 focus
  refine tkI 17 (.agg #[.int .i64 17,.int .u64 0,.string ⟨((B.drop at_).take 16).toArray⟩,.slice none 0 0,.int .i64 0]) 74 rfl rfl (by kernel_rfl) (fun _ _ _=>id) (by rfl) (by rintro V h0;go_simp) hS ?_
  try simp only [Act.put,sA,sB,sC]
  have hh:=setRow_heap w5.drew y _ #[.int .i64 17,.int .u64 0,.string ⟨((B.drop at_).take 16).toArray⟩,.slice none 0 0,.int .i64 0] _ _ HO5.out
  have hyr:r ≠ y:=fun e=>by have:=hlt.out;have:=HB0.out.2.1;omega
  have hS3:RdIn (w5.drew.setRow y #[.int .i64 17,.int .u64 0,.string ⟨((B.drop at_).take 16).toArray⟩,.slice none 0 0,.int .i64 0]) r p n cp a2 en sz B:=⟨(setRow_other w5.drew y r _ hyr).trans hS.row,hS.src.keep ⟨rfl,rfl,rfl,by simp,fun j hj hne=>setRow_other w5.drew y j _ (fun e=>by have:=hlt.out;have:=HB0.out.2.1;omega)⟩,hS.ha,hS.hen,hS.hn⟩
 rotate_left
 all_goals
  refine oneH (i:=18) (by kernel_rfl) ?_
  refine stepD (i:=18) rfl (by rfl) (fun K5 h5=>?_)
 refine wp_store_rowN 25 (.tmp 8) (.tmp 74) rfl rfl y #[.int .i64 14,.int .u64 0,.string ⟨((B.drop at_).take 16).toArray⟩,.slice none 0 0,.int .i64 0] rfl rfl 25 zR HO5.out (by as_aux_lemma=>kernel_rfl) (by as_aux_lemma=>kernel_rfl) (by simp [Value.oneCell']) ?_
 rotate_left
 refine wp_store_rowN 25 (.tmp 8) (.tmp 74) rfl rfl y #[.int .i64 17,.int .u64 0,.string ⟨((B.drop at_).take 16).toArray⟩,.slice none 0 0,.int .i64 0] rfl rfl 25 zR HO5.out (by as_aux_lemma=>kernel_rfl) (by as_aux_lemma=>kernel_rfl) (by simp [Value.oneCell']) ?_
 rotate_left
 all_goals
  refine h5.out _ _ hS3 ?_
  clear h5
  try simp only [Act.put,sA,sB,sC]
  refine wpAnyH_done (by kernel_rfl) ?_ _
 change Exit.then _ _ _ _ (w5.drew.setRow y #[.int .i64 14,.int .u64 0,.string ⟨((B.drop at_).take 16).toArray⟩,.slice none 0 0,.int .i64 0])
 rotate_left
 change Exit.then _ _ _ _ (w5.drew.setRow y #[.int .i64 17,.int .u64 0,.string ⟨((B.drop at_).take 16).toArray⟩,.slice none 0 0,.int .i64 0])
 rotate_left
 all_goals
  clear ib5
  generalize (if cp = at_ then p else p.map (fun x=>x.add at_)) = ps at *
  go_wp2_with fail
 refine bodyPost_ret (results_cell_row (p:=8) (ty:=25) (by kernel_rfl) _ _ y 25 #[.int .i64 14,.int .u64 0,.string ⟨((B.drop at_).take 16).toArray⟩,.slice none 0 0,.int .i64 0] (0,0) _ rfl hh underlying25 rfl (by as_aux_lemma=>kernel_rfl)) rfl ?_
 rotate_left
 refine bodyPost_ret (results_cell_row (p:=8) (ty:=25) (by kernel_rfl) _ _ y 25 #[.int .i64 17,.int .u64 0,.string ⟨((B.drop at_).take 16).toArray⟩,.slice none 0 0,.int .i64 0] (0,0) _ rfl hh underlying25 rfl (by as_aux_lemma=>kernel_rfl)) rfl ?_
 rotate_left
 all_goals
  have hy0:=HB0.out.2.1
  exact ⟨rfl,⟨HM5.out.os,HM5.out.tape,HM5.out.output,Nat.le_trans HM5.out.size (by simp),fun j hj hne=>(setRow_other w5.drew y j _ (fun e=>by omega)).trans (HM5.out.block j hj hne)⟩,hS3.row⟩
def raw_94:=fun o d w r p n cp at_ en sz own B h hs=>(mrg_raw_94 o d w r p n cp at_ en sz own B h hs).1
def raw_98:=fun o d w r p n cp at_ en sz own B h hs=>(mrg_raw_94 o d w r p n cp at_ en sz own B h hs).2
end Go.Proofs.YtnnnfhobbnjmfaaGreatDoor
