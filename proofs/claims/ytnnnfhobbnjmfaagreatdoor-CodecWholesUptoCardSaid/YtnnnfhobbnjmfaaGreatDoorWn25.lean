/-
  Lemmas on the codec. Conditions: as each says.
-/
import Derived.Test.YtnnnfhobbnjmfaaGreatDoorWn24
import Derived.Great.BuildSlice
namespace Go.Proofs.YtnnnfhobbnjmfaaGreatDoor
open Go.RowKit Go.Proofs.Tryz
set_option linter.all false
set_option maxHeartbeats 40000000
set_option maxRecDepth 20000

attribute [local go_sem] Oper.semAt_some

def headR (x:Res):Res:=match x with
 | .error e=>.error (headE e)
 | .ok (v,k)=>.ok (v,1+k)
theorem RdTo.head_err {w w':World} {r:Nat} {p:Option Addr} {n cp at_ en a1:Nat} {sz own:Int} (ha1:at_+1 = a1) (y:Er) (h:KeepF (fun g=>g = r) w w') :
  RdTo w r p n cp at_ en sz own (headR (.error y)) (faultE (erP n sz (at_:Nat) a1 y) (erC sz y)) w':=by
 refine ⟨?_,h⟩
 cases y with
 | short=>rfl
 | own e=>rfl
 | pl k e=>subst ha1;show faultE _ _ = faultE _ _;congr 1;show ((at_+1+k:Nat):Int) = ((at_+(k+1):Nat):Int);omega
theorem value_short (d:Int) (w:World) (r:Nat) (p:Option Addr) (n cp at_ en:Nat) (sz own:Int) (B:List UInt8) (h:RdIn w r p n cp at_ en sz B) (hat:¬ at_ < en) :
  Calls prog 38 #[.pointer (some ⟨r,0,none⟩),.int .i64 d] w fun e w'=>RdTo w r p n cp at_ en sz own (.error .short) e w':=by
 have HNE:=zH (show ∀ W,RdIn W r p n cp at_ en sz B -> Calls prog 56 #[.pointer (some ⟨r,0,none⟩),.int .i64 1] W fun e w'=>e = faultE (shP n sz) (shC sz)∧Below W.heap.size W w' from fun W hW=>need_bad W r p n cp at_ en sz hW.row 1 hW.ha (by omega) (by have:=hW.hen;have:=hW.hn;omega) hW.hn)
 clear hat
 go_enter func38,ntmps38
 go_upto_region 1 with fail
 have hb0:Below w.heap.size w (w.alloc (.cells zR 25)):=((Below.refl _ _).alloc (Nat.le_refl _) _)
 have oy:=zN w (.cells zR 25)
 generalize (w.alloc (.cells zR 25)) = w0 at *
 obtain ⟨y,hy⟩:∃ y,w.heap.size = y:=⟨_,rfl⟩
 rw [hy] at oy ⊢
 have HR0:=zH (h.blw hb0)
 have HB0:=zH (And.intro hb0 (And.intro hy oy))
 have hlt:=zH h.lt
 clear hb0 hy oy h
 go_wp2_with fail
 refine (HNE.out _ HR0.out).mono ?_
 rintro e w1 ⟨rfl,hb1⟩
 exact ⟨rfl,rfl,(KeepF.of_below HB0.out.1).trans (KeepF.of_below hb1)⟩
theorem mrg_value_code (c:Nat) (K d:Int) (hkd:kindC c = K) (w:World) (r:Nat) (p:Option Addr) (n cp at_ en:Nat) (sz own:Int) (B:List UInt8) (h:RdIn w r p n cp at_ en sz B) (hat:at_ < en) (hcd:(B.getD at_ 0).toNat = c):(∀ (hd1:decide (K < 0) = true),Calls prog 38 #[.pointer (some ⟨r,0,none⟩),.int .i64 d] w fun e w'=>RdTo w r p n cp at_ en sz own (.error (.pl 0 (ec 30))) e w') ∧
  (∀ (hd1:decide (K < 0) = false) (hd2:decide (32 < d) = true),Calls prog 38 #[.pointer (some ⟨r,0,none⟩),.int .i64 d] w fun e w'=>RdTo w r p n cp at_ en sz own (.error (.pl 0 (ec 26))) e w'):=by
 refine ⟨?_,?_⟩
 intro hd1
 rotate_left
 intro hd1 hd2
 rotate_left
 all_goals
  have HNE:=zH (show ∀ W,RdIn W r p n cp at_ en sz B -> Calls prog 56 #[.pointer (some ⟨r,0,none⟩),.int .i64 1] W fun e w'=>e = .returned (.tuple #[])∧Below W.heap.size W w' from fun W hW=>need_ok W r p n cp at_ en sz hW.row 1 hW.ha (by omega) (by have:=hW.hen;have:=hW.hn;omega))
  have HK:=zH (fun W=>hkd ▸ kind_any (c) W)
  obtain ⟨b,o,hp,_,_⟩:=h.src.bytes.at_ (by have:=h.src.bytes.le;have:=h.hen;omega)
  subst hp
  have HC:=zH (show ∀ W,RdIn W r (some ⟨b,o,none⟩) n cp at_ en sz B -> W.cell? ⟨b,o+at_,none⟩ = some (.int .u8 (c:Nat)) from fun W hW=>by have:=hW.src.bytes.cell rfl at_ (by have:=hW.hen;omega);rw [this,hcd])
  have ib1:(0:Int) <= (at_:Nat):=by omega
  have ib2:((at_:Nat):Int) < (n:Nat):=by have:=h.hen;omega
  have ib3:((at_:Nat):Int) <= 140737488355328:=by have:=h.hn;omega
  obtain ⟨a1,ha1⟩:∃ a1,at_+1 = a1:=⟨_,rfl⟩
  have hadd:IntKind.i64.wrap ((at_:Int)+1) = (a1:Nat):=by rw [IntWalk.i64_in _ (by omega)];omega
  have HA1:=zH (And.intro ha1 (show a1 <= en by omega))
  clear hat hcd hkd ha1
  go_enter func38,ntmps38
  go_upto_region 1 with fail
  have hb0:Below w.heap.size w (w.alloc (.cells zR 25)):=((Below.refl _ _).alloc (Nat.le_refl _) _)
  have oy:=zN w (.cells zR 25)
  generalize (w.alloc (.cells zR 25)) = w0 at *
  obtain ⟨y,hy⟩:∃ y,w.heap.size = y:=⟨_,rfl⟩
  rw [hy] at oy ⊢
  have HR0:=zH (h.blw hb0)
  have HB0:=zH (And.intro hb0 (And.intro hy oy))
  have hlt:=zH h.lt
  clear hb0 hy oy h
  go_wp2_with fail
  refine (HNE.out _ HR0.out).mono ?_
  rintro e w1 ⟨rfl,hb1⟩
  have HR1:=zH (HR0.out.blw hb1)
  have oy1:=(hb1.block y (gl HB0.out.2.2)).trans HB0.out.2.2
  have HB1:=zH (And.intro hb1 oy1)
  have r0:w1.cell? ⟨r,0,none⟩ = some (.slice (some ⟨b,o,none⟩) n cp):=(cell_of_row _ _ 0 _ _ _ HR1.out.row).trans rfl
  have r1:w1.cell? ⟨r,1,none⟩ = some (.int .i64 (at_:Nat)):=(cell_of_row _ _ 1 _ _ _ HR1.out.row).trans rfl
  have fr:w1.frozen? ⟨r,1,none⟩ = false:=by simp [World.frozen?,HR1.out.row]
  have hcell:=HC.out w1 HR1.out
  clear hb1 oy1
  go_wp2_with fail
  refine (HK.out _).mono ?_
  rintro e w2 ⟨rfl,rfl⟩
  go_wp2_with fail
  refine (wrong_any _ _ _).mono ?_
  rintro e w5 ⟨rfl,rfl⟩
  exact ⟨rfl,rfl,(KeepF.of_below HB0.out.1).trans (KeepF.of_below HB1.out.1)⟩
def value_code:=fun c K d hkd w r p n cp at_ en sz own B h hat hcd=>(mrg_value_code c K d hkd w r p n cp at_ en sz own B h hat hcd).1
def value_deep:=fun c K d hkd w r p n cp at_ en sz own B h hat hcd=>(mrg_value_code c K d hkd w r p n cp at_ en sz own B h hat hcd).2
theorem value_data (c:Nat) (K d:Int) (hkd:kindC c = K) (w:World) (r:Nat) (p:Option Addr) (n cp at_ en:Nat) (sz own:Int) (B:List UInt8) (h:RdIn w r p n cp at_ en sz B) (hat:at_ < en) (hcd:(B.getD at_ 0).toNat = c) (hd1:decide (K < 0) = false) (hd2:decide (32 < d) = false) (hne:c ≠ 0∧c / 16 ≠ 4) (x:Res)
  (hx:∀ W,RdIn W r p n cp (at_+1) en sz B -> Calls prog 58 #[.pointer (some ⟨r,0,none⟩),.int .u8 (c:Nat),.int .i64 (at_:Nat),.int .i64 d] W fun e w'=>RdTo W r p n cp (at_+1) en sz (at_:Nat) x e w') :
  Calls prog 38 #[.pointer (some ⟨r,0,none⟩),.int .i64 d] w fun e w'=>RdTo w r p n cp at_ en sz own (headR x) e w':=by
 have HX:=zH hx
 clear hx
 have HNE:=zH (show ∀ W,RdIn W r p n cp at_ en sz B -> Calls prog 56 #[.pointer (some ⟨r,0,none⟩),.int .i64 1] W fun e w'=>e = .returned (.tuple #[])∧Below W.heap.size W w' from fun W hW=>need_ok W r p n cp at_ en sz hW.row 1 hW.ha (by omega) (by have:=hW.hen;have:=hW.hn;omega))
 have HK:=zH (fun W=>hkd ▸ kind_any (c) W)
 obtain ⟨b,o,hp,_,_⟩:=h.src.bytes.at_ (by have:=h.src.bytes.le;have:=h.hen;omega)
 subst hp
 have HC:=zH (show ∀ W,RdIn W r (some ⟨b,o,none⟩) n cp at_ en sz B -> W.cell? ⟨b,o+at_,none⟩ = some (.int .u8 (c:Nat)) from fun W hW=>by have:=hW.src.bytes.cell rfl at_ (by have:=hW.hen;omega);rw [this,hcd])
 have ib1:(0:Int) <= (at_:Nat):=by omega
 have ib2:((at_:Nat):Int) < (n:Nat):=by have:=h.hen;omega
 have ib3:((at_:Nat):Int) <= 140737488355328:=by have:=h.hn;omega
 obtain ⟨a1,ha1⟩:∃ a1,at_+1 = a1:=⟨_,rfl⟩
 have hadd:IntKind.i64.wrap ((at_:Int)+1) = (a1:Nat):=by rw [IntWalk.i64_in _ (by omega)];omega
 have HA1:=zH (And.intro ha1 (show a1 <= en by omega))
 have n0:(((c:Nat):Int) == 0) = false:=by simp;omega
 have n65:(((c:Nat):Int) == 65) = false:=by simp;omega
 have n64:(((c:Nat):Int) == 64) = false:=by simp;omega
 have n66:(((c:Nat):Int) == 66) = false:=by simp;omega
 have n67:(((c:Nat):Int) == 67) = false:=by simp;omega
 have n68:(((c:Nat):Int) == 68) = false:=by simp;omega
 have n69:(((c:Nat):Int) == 69) = false:=by simp;omega
 rw [ha1] at HX
 clear hne
 clear hat hcd hkd ha1
 go_enter func38,ntmps38
 go_upto_region 1 with fail
 have hb0:Below w.heap.size w (w.alloc (.cells zR 25)):=((Below.refl _ _).alloc (Nat.le_refl _) _)
 have oy:=zN w (.cells zR 25)
 generalize (w.alloc (.cells zR 25)) = w0 at *
 obtain ⟨y,hy⟩:∃ y,w.heap.size = y:=⟨_,rfl⟩
 rw [hy] at oy ⊢
 have HR0:=zH (h.blw hb0)
 have HB0:=zH (And.intro hb0 (And.intro hy oy))
 have hlt:=zH h.lt
 clear hb0 hy oy h
 go_wp2_with fail
 refine (HNE.out _ HR0.out).mono ?_
 rintro e w1 ⟨rfl,hb1⟩
 have HR1:=zH (HR0.out.blw hb1)
 have oy1:=(hb1.block y (gl HB0.out.2.2)).trans HB0.out.2.2
 have HB1:=zH (And.intro hb1 oy1)
 have r0:w1.cell? ⟨r,0,none⟩ = some (.slice (some ⟨b,o,none⟩) n cp):=(cell_of_row _ _ 0 _ _ _ HR1.out.row).trans rfl
 have r1:w1.cell? ⟨r,1,none⟩ = some (.int .i64 (at_:Nat)):=(cell_of_row _ _ 1 _ _ _ HR1.out.row).trans rfl
 have fr:w1.frozen? ⟨r,1,none⟩ = false:=by simp [World.frozen?,HR1.out.row]
 have hcell:=HC.out w1 HR1.out
 clear hb1 oy1
 go_wp2_with fail
 refine (HK.out _).mono ?_
 rintro e w2 ⟨rfl,rfl⟩
 go_upto_region 10 with fail
 have hyr0:y ≠ r:=fun e=>by have:=hlt.out;have:=HB0.out.2.1;omega
 have or5:=heap_setCell_same w1 r 1 _ _ (.int .i64 (a1:Nat)) HR1.out.row
 have oy5:(w1.setCell ⟨r,1,none⟩ (.int .i64 (a1:Nat))).heap[y]? = some (.cells zR 25 (0,0)):=(set_farV hyr0).trans HB1.out.2
 have hk5:KeepF (fun g=>g = r) w1 (w1.setCell ⟨r,1,none⟩ (.int .i64 (a1:Nat))):=⟨rfl,rfl,rfl,by simp,fun j hj hne=>set_farV hne⟩
 change Code.wp _ _ _ _ (w1.setCell ⟨r,1,none⟩ (.int .i64 (a1:Nat)))
 generalize w1.setCell ⟨r,1,none⟩ (.int .i64 (a1:Nat)) = w2 at *
 have HR2:=zH (HR1.out.mv ⟨hk5,or5⟩ HA1.out.2)
 have HM2:=zH (((KeepF.of_below HB0.out.1).trans (KeepF.of_below HB1.out.1)).trans hk5)
 have HO2:=zH oy5
 clear or5 oy5 hk5 hyr0 r0 r1 fr hadd hcell
 go_wp2_with fail
 refine (HX.out _ HR2.out).mono ?_
 rintro e w3 hto
 rcases x with y1|⟨v,k⟩
 ·obtain ⟨rfl,hk⟩:=hto
  exact ⟨rfl,RdTo.head_err HA1.out.1 y1 (HM2.out.trans hk)⟩
 obtain ⟨s,F,rfl,hvo,hmv⟩:=hto
 obtain ⟨ps,cs,hss,_,_⟩:=hvo.slice
 subst hss
 have oy3:=(hmv.keep.block y (gl HO2.out) (fun e=>by have:=hlt.out;have:=HB0.out.2.1;omega)).trans HO2.out
 have HV:=zH (And.intro hvo (And.intro hmv oy3))
 clear hvo hmv
 go_wp2_with (refine stV (.tmp 4) (.tmp 72) rfl rfl rfl rfl rfl oy3 rfl ?_)
 have hh:=setRow_heap w3 y _ #[.int .i64 v.kind,.int .u64 v.num,.string v.text,.slice ps v.list.length cs,.int .i64 v.elem] _ _ HV.out.2.2
 refine bodyPost_ret (results_cell_row (p:=4) (ty:=25) (by kernel_rfl) _ _ y 25 #[.int .i64 v.kind,.int .u64 v.num,.string v.text,.slice ps v.list.length cs,.int .i64 v.elem] (0,0) _ rfl hh underlying25 rfl (by as_aux_lemma=>kernel_rfl)) rfl ?_
 have hy0:=HB0.out.2.1
 have hy1:=(gl HO2.out)
 have hsz:=HM2.out.size
 have hkk:=HM2.out.trans HV.out.2.1.keep
 have hyr:r ≠ y:=fun e=>by have:=hlt.out;omega
 have hat:(w3.setRow y #[.int .i64 v.kind,.int .u64 v.num,.string v.text,.slice ps v.list.length cs,.int .i64 v.elem]).heap[r]? = some (.cells #[.slice (some ⟨b,o,none⟩) n cp,.int .i64 (at_+(1+k):Nat),.int .i64 (en:Nat),.int .i64 sz] 66 (0,0)):=by
  have:=(setRow_other w3 y r #[.int .i64 v.kind,.int .u64 v.num,.string v.text,.slice ps v.list.length cs,.int .i64 v.elem] hyr).trans HV.out.2.1.at_
  rw [show at_+(1+k) = a1+k by have:=HA1.out.1;omega]
  exact this
 exact ⟨_,F,rfl,(HV.out.1.mono hsz).keep (fun b hb=>setRow_other w3 y b _ (fun e=>by have:=(HV.out.1.lt b hb).1;omega)),⟨⟨hkk.os,hkk.tape,hkk.output,Nat.le_trans hkk.size (by simp),fun j hj hne=>(setRow_other w3 y j _ (fun e=>by omega)).trans (hkk.block j hj hne)⟩,hat⟩⟩
theorem mrg_value_41 (c:Nat):(∀ (hc0:c = 65) (d:Int) (w:World) (r:Nat) (p:Option Addr) (n cp at_ en:Nat) (sz own:Int) (B:List UInt8) (h:RdIn w r p n cp at_ en sz B) (hat:at_ < en) (hcd:(B.getD at_ 0).toNat = c) (hd2:decide (32 < d) = false),Calls prog 38 #[.pointer (some ⟨r,0,none⟩),.int .i64 d] w fun e w'=>e = .returned (.agg #[.int .i64 1,.int .u64 1,.string ⟨#[]⟩,.slice none 0 0,.int .i64 0])∧RdMv w w' r #[.slice p n cp,.int .i64 (at_+1:Nat),.int .i64 (en:Nat),.int .i64 sz]) ∧
  (∀ (hc0:c = 64) (d:Int) (w:World) (r:Nat) (p:Option Addr) (n cp at_ en:Nat) (sz own:Int) (B:List UInt8) (h:RdIn w r p n cp at_ en sz B) (hat:at_ < en) (hcd:(B.getD at_ 0).toNat = c) (hd2:decide (32 < d) = false),Calls prog 38 #[.pointer (some ⟨r,0,none⟩),.int .i64 d] w fun e w'=>e = .returned (.agg zR)∧RdMv w w' r #[.slice p n cp,.int .i64 (at_+1:Nat),.int .i64 (en:Nat),.int .i64 sz]) ∧
  (∀ (hc0:c = 66) (d:Int) (w:World) (r:Nat) (p:Option Addr) (n cp at_ en:Nat) (sz own:Int) (B:List UInt8) (h:RdIn w r p n cp at_ en sz B) (hat:at_ < en) (hcd:(B.getD at_ 0).toNat = c) (hd2:decide (32 < d) = false),Calls prog 38 #[.pointer (some ⟨r,0,none⟩),.int .i64 d] w fun e w'=>e = .returned (.agg #[.int .i64 1,.int .u64 0,.string ⟨#[]⟩,.slice none 0 0,.int .i64 0])∧RdMv w w' r #[.slice p n cp,.int .i64 (at_+1:Nat),.int .i64 (en:Nat),.int .i64 sz]) ∧
  (∀ (hc0:c = 67) (d:Int) (w:World) (r:Nat) (p:Option Addr) (n cp at_ en:Nat) (sz own:Int) (B:List UInt8) (h:RdIn w r p n cp at_ en sz B) (hat:at_ < en) (hcd:(B.getD at_ 0).toNat = c) (hd2:decide (32 < d) = false),Calls prog 38 #[.pointer (some ⟨r,0,none⟩),.int .i64 d] w fun e w'=>e = .returned (.agg #[.int .i64 4,.int .u64 0,.string ⟨#[]⟩,.slice none 0 0,.int .i64 0])∧RdMv w w' r #[.slice p n cp,.int .i64 (at_+1:Nat),.int .i64 (en:Nat),.int .i64 sz]) ∧
  (∀ (hc0:c = 68) (d:Int) (w:World) (r:Nat) (p:Option Addr) (n cp at_ en:Nat) (sz own:Int) (B:List UInt8) (h:RdIn w r p n cp at_ en sz B) (hat:at_ < en) (hcd:(B.getD at_ 0).toNat = c) (hd2:decide (32 < d) = false),Calls prog 38 #[.pointer (some ⟨r,0,none⟩),.int .i64 d] w fun e w'=>e = .returned (.agg #[.int .i64 5,.int .u64 0,.string ⟨#[]⟩,.slice none 0 0,.int .i64 0])∧RdMv w w' r #[.slice p n cp,.int .i64 (at_+1:Nat),.int .i64 (en:Nat),.int .i64 sz]) ∧
  (∀ (hc0:c = 69) (d:Int) (w:World) (r:Nat) (p:Option Addr) (n cp at_ en:Nat) (sz own:Int) (B:List UInt8) (h:RdIn w r p n cp at_ en sz B) (hat:at_ < en) (hcd:(B.getD at_ 0).toNat = c) (hd2:decide (32 < d) = false),Calls prog 38 #[.pointer (some ⟨r,0,none⟩),.int .i64 d] w fun e w'=>e = .returned (.agg #[.int .i64 21,.int .u64 0,.string ⟨#[]⟩,.slice none 0 0,.int .i64 0])∧RdMv w w' r #[.slice p n cp,.int .i64 (at_+1:Nat),.int .i64 (en:Nat),.int .i64 sz]):=by
 refine ⟨?_,?_,?_,?_,?_,?_⟩
 all_goals intro hc0 d w r p n cp at_ en sz own B h hat hcd hd2
 subst hc0
 have hkd:kindC 65 = 1:=rfl
 rotate_left
 subst hc0
 have hkd:kindC 64 = 0:=rfl
 rotate_left
 subst hc0
 have hkd:kindC 66 = 1:=rfl
 rotate_left
 subst hc0
 have hkd:kindC 67 = 4:=rfl
 rotate_left
 subst hc0
 have hkd:kindC 68 = 5:=rfl
 rotate_left
 subst hc0
 have hkd:kindC 69 = 21:=rfl
 rotate_left
 all_goals
  have HNE:=zH (show ∀ W,RdIn W r p n cp at_ en sz B -> Calls prog 56 #[.pointer (some ⟨r,0,none⟩),.int .i64 1] W fun e w'=>e = .returned (.tuple #[])∧Below W.heap.size W w' from fun W hW=>need_ok W r p n cp at_ en sz hW.row 1 hW.ha (by omega) (by have:=hW.hen;have:=hW.hn;omega))
 have HK:=zH (fun W=>hkd ▸ kind_any (65) W)
 rotate_left
 have HK:=zH (fun W=>hkd ▸ kind_any (64) W)
 rotate_left
 have HK:=zH (fun W=>hkd ▸ kind_any (66) W)
 rotate_left
 have HK:=zH (fun W=>hkd ▸ kind_any (67) W)
 rotate_left
 have HK:=zH (fun W=>hkd ▸ kind_any (68) W)
 rotate_left
 have HK:=zH (fun W=>hkd ▸ kind_any (69) W)
 rotate_left
 all_goals
  obtain ⟨b,o,hp,_,_⟩:=h.src.bytes.at_ (by have:=h.src.bytes.le;have:=h.hen;omega)
  subst hp
 have HC:=zH (show ∀ W,RdIn W r (some ⟨b,o,none⟩) n cp at_ en sz B -> W.cell? ⟨b,o+at_,none⟩ = some (.int .u8 (65:Nat)) from fun W hW=>by have:=hW.src.bytes.cell rfl at_ (by have:=hW.hen;omega);rw [this,hcd])
 rotate_left
 have HC:=zH (show ∀ W,RdIn W r (some ⟨b,o,none⟩) n cp at_ en sz B -> W.cell? ⟨b,o+at_,none⟩ = some (.int .u8 (64:Nat)) from fun W hW=>by have:=hW.src.bytes.cell rfl at_ (by have:=hW.hen;omega);rw [this,hcd])
 rotate_left
 have HC:=zH (show ∀ W,RdIn W r (some ⟨b,o,none⟩) n cp at_ en sz B -> W.cell? ⟨b,o+at_,none⟩ = some (.int .u8 (66:Nat)) from fun W hW=>by have:=hW.src.bytes.cell rfl at_ (by have:=hW.hen;omega);rw [this,hcd])
 rotate_left
 have HC:=zH (show ∀ W,RdIn W r (some ⟨b,o,none⟩) n cp at_ en sz B -> W.cell? ⟨b,o+at_,none⟩ = some (.int .u8 (67:Nat)) from fun W hW=>by have:=hW.src.bytes.cell rfl at_ (by have:=hW.hen;omega);rw [this,hcd])
 rotate_left
 have HC:=zH (show ∀ W,RdIn W r (some ⟨b,o,none⟩) n cp at_ en sz B -> W.cell? ⟨b,o+at_,none⟩ = some (.int .u8 (68:Nat)) from fun W hW=>by have:=hW.src.bytes.cell rfl at_ (by have:=hW.hen;omega);rw [this,hcd])
 rotate_left
 have HC:=zH (show ∀ W,RdIn W r (some ⟨b,o,none⟩) n cp at_ en sz B -> W.cell? ⟨b,o+at_,none⟩ = some (.int .u8 (69:Nat)) from fun W hW=>by have:=hW.src.bytes.cell rfl at_ (by have:=hW.hen;omega);rw [this,hcd])
 rotate_left
 all_goals
  have ib1:(0:Int) <= (at_:Nat):=by omega
  have ib2:((at_:Nat):Int) < (n:Nat):=by have:=h.hen;omega
  have ib3:((at_:Nat):Int) <= 140737488355328:=by have:=h.hn;omega
  obtain ⟨a1,ha1⟩:∃ a1,at_+1 = a1:=⟨_,rfl⟩
  have hadd:IntKind.i64.wrap ((at_:Int)+1) = (a1:Nat):=by rw [IntWalk.i64_in _ (by omega)];omega
  have HA1:=zH (And.intro ha1 (show a1 <= en by omega))
  clear hat hcd hkd ha1
  go_enter func38,ntmps38
  go_upto_region 1 with fail
  have hb0:Below w.heap.size w (w.alloc (.cells zR 25)):=((Below.refl _ _).alloc (Nat.le_refl _) _)
  have oy:=zN w (.cells zR 25)
  generalize (w.alloc (.cells zR 25)) = w0 at *
  obtain ⟨y,hy⟩:∃ y,w.heap.size = y:=⟨_,rfl⟩
  rw [hy] at oy ⊢
  have HR0:=zH (h.blw hb0)
  have HB0:=zH (And.intro hb0 (And.intro hy oy))
  have hlt:=zH h.lt
  clear hb0 hy oy h
  go_wp2_with fail
  refine (HNE.out _ HR0.out).mono ?_
  rintro e w1 ⟨rfl,hb1⟩
  have HR1:=zH (HR0.out.blw hb1)
  have oy1:=(hb1.block y (gl HB0.out.2.2)).trans HB0.out.2.2
  have HB1:=zH (And.intro hb1 oy1)
  have r0:w1.cell? ⟨r,0,none⟩ = some (.slice (some ⟨b,o,none⟩) n cp):=(cell_of_row _ _ 0 _ _ _ HR1.out.row).trans rfl
  have r1:w1.cell? ⟨r,1,none⟩ = some (.int .i64 (at_:Nat)):=(cell_of_row _ _ 1 _ _ _ HR1.out.row).trans rfl
  have fr:w1.frozen? ⟨r,1,none⟩ = false:=by simp [World.frozen?,HR1.out.row]
  have hcell:=HC.out w1 HR1.out
  clear hb1 oy1
  go_wp2_with fail
  refine (HK.out _).mono ?_
  rintro e w2 ⟨rfl,rfl⟩
  go_upto_region 10 with fail
  have hyr0:y ≠ r:=fun e=>by have:=hlt.out;have:=HB0.out.2.1;omega
  have or5:=heap_setCell_same w1 r 1 _ _ (.int .i64 (a1:Nat)) HR1.out.row
  have oy5:(w1.setCell ⟨r,1,none⟩ (.int .i64 (a1:Nat))).heap[y]? = some (.cells zR 25 (0,0)):=(set_farV hyr0).trans HB1.out.2
  have hk5:KeepF (fun g=>g = r) w1 (w1.setCell ⟨r,1,none⟩ (.int .i64 (a1:Nat))):=⟨rfl,rfl,rfl,by simp,fun j hj hne=>set_farV hne⟩
  change Code.wp _ _ _ _ (w1.setCell ⟨r,1,none⟩ (.int .i64 (a1:Nat)))
  generalize w1.setCell ⟨r,1,none⟩ (.int .i64 (a1:Nat)) = w2 at *
  have HR2:=zH (HR1.out.mv ⟨hk5,or5⟩ HA1.out.2)
  have HM2:=zH (((KeepF.of_below HB0.out.1).trans (KeepF.of_below HB1.out.1)).trans hk5)
  have HO2:=zH oy5
  clear or5 oy5 hk5 hyr0 r0 r1 fr hadd hcell
 focus
  go_wp2_with (refine stV (.tmp 4) (.tmp 59) rfl rfl rfl rfl rfl HO2.out rfl ?_)
  have hh:=setRow_heap w2 y _ #[.int .i64 1,.int .u64 1,.string ⟨#[]⟩,.slice none 0 0,.int .i64 0] _ _ HO2.out
  refine bodyPost_ret (results_cell_row (p:=4) (ty:=25) (by kernel_rfl) _ _ y 25 #[.int .i64 1,.int .u64 1,.string ⟨#[]⟩,.slice none 0 0,.int .i64 0] (0,0) _ rfl hh underlying25 rfl (by as_aux_lemma=>kernel_rfl)) rfl ?_
 rotate_left
 focus
  go_wp2_with (refine stV (.tmp 4) (.tmp 67) rfl rfl rfl rfl rfl HO2.out rfl ?_)
  have hh:=setRow_heap w2 y _ zR _ _ HO2.out
  refine bodyPost_ret (results_cell_row (p:=4) (ty:=25) (by kernel_rfl) _ _ y 25 zR (0,0) _ rfl hh underlying25 rfl (by as_aux_lemma=>kernel_rfl)) rfl ?_
 rotate_left
 focus
  go_wp2_with (refine stV (.tmp 4) (.tmp 67) rfl rfl rfl rfl rfl HO2.out rfl ?_)
  have hh:=setRow_heap w2 y _ #[.int .i64 1,.int .u64 0,.string ⟨#[]⟩,.slice none 0 0,.int .i64 0] _ _ HO2.out
  refine bodyPost_ret (results_cell_row (p:=4) (ty:=25) (by kernel_rfl) _ _ y 25 #[.int .i64 1,.int .u64 0,.string ⟨#[]⟩,.slice none 0 0,.int .i64 0] (0,0) _ rfl hh underlying25 rfl (by as_aux_lemma=>kernel_rfl)) rfl ?_
 rotate_left
 focus
  go_wp2_with (refine stV (.tmp 4) (.tmp 67) rfl rfl rfl rfl rfl HO2.out rfl ?_)
  have hh:=setRow_heap w2 y _ #[.int .i64 4,.int .u64 0,.string ⟨#[]⟩,.slice none 0 0,.int .i64 0] _ _ HO2.out
  refine bodyPost_ret (results_cell_row (p:=4) (ty:=25) (by kernel_rfl) _ _ y 25 #[.int .i64 4,.int .u64 0,.string ⟨#[]⟩,.slice none 0 0,.int .i64 0] (0,0) _ rfl hh underlying25 rfl (by as_aux_lemma=>kernel_rfl)) rfl ?_
 rotate_left
 focus
  go_wp2_with (refine stV (.tmp 4) (.tmp 67) rfl rfl rfl rfl rfl HO2.out rfl ?_)
  have hh:=setRow_heap w2 y _ #[.int .i64 5,.int .u64 0,.string ⟨#[]⟩,.slice none 0 0,.int .i64 0] _ _ HO2.out
  refine bodyPost_ret (results_cell_row (p:=4) (ty:=25) (by kernel_rfl) _ _ y 25 #[.int .i64 5,.int .u64 0,.string ⟨#[]⟩,.slice none 0 0,.int .i64 0] (0,0) _ rfl hh underlying25 rfl (by as_aux_lemma=>kernel_rfl)) rfl ?_
 rotate_left
 focus
  go_wp2_with (refine stV (.tmp 4) (.tmp 67) rfl rfl rfl rfl rfl HO2.out rfl ?_)
  have hh:=setRow_heap w2 y _ #[.int .i64 21,.int .u64 0,.string ⟨#[]⟩,.slice none 0 0,.int .i64 0] _ _ HO2.out
  refine bodyPost_ret (results_cell_row (p:=4) (ty:=25) (by kernel_rfl) _ _ y 25 #[.int .i64 21,.int .u64 0,.string ⟨#[]⟩,.slice none 0 0,.int .i64 0] (0,0) _ rfl hh underlying25 rfl (by as_aux_lemma=>kernel_rfl)) rfl ?_
 rotate_left
 all_goals
  have hy0:=HB0.out.2.1
  have hkk:=HM2.out
  have hyr:r ≠ y:=fun e=>by have:=hlt.out;omega
  refine ⟨rfl,⟨hkk.os,hkk.tape,hkk.output,Nat.le_trans hkk.size (by simp),fun j hj hne=>(setRow_other w2 y j _ (fun e=>by omega)).trans (hkk.block j hj hne)⟩,?_⟩
  rw [HA1.out.1]
  exact (setRow_other w2 y r _ hyr).trans HR2.out.row
def value_41:=fun c=>(mrg_value_41 c).1
def value_40:=fun c=>(mrg_value_41 c).2.1
def value_42:=fun c=>(mrg_value_41 c).2.2.1
def value_43:=fun c=>(mrg_value_41 c).2.2.2.1
def value_44:=fun c=>(mrg_value_41 c).2.2.2.2.1
def value_45:=fun c=>(mrg_value_41 c).2.2.2.2.2

attribute [local go_sem] Oper.semAt_some

theorem RdTo.shift_err {w w':World} {r:Nat} {p:Option Addr} {n cp at_ en a1 k:Nat} {sz own:Int} (ha1:at_+k = a1) (y:Er) (h:KeepF (fun g=>g = r) w w') :
  RdTo w r p n cp at_ en sz own (.error (shiftE k y)) (faultE (erP n sz own a1 y) (erC sz y)) w':=by
 refine ⟨?_,h⟩
 cases y with
 | short=>rfl
 | own e=>rfl
 | pl j e=>subst ha1;show faultE _ _ = faultE _ _;congr 1;show ((at_+k+j:Nat):Int) = ((at_+(j+k):Nat):Int);omega
theorem VO.pair {w:World} {B g:Nat} {a b:V} {s t:Value} {F1 F2:Nat -> Prop} (hg:w.heap[g]? = some (.cells #[.int .i64 a.kind,.int .u64 a.num,.string a.text,s,.int .i64 a.elem,.int .i64 b.kind,.int .u64 b.num,.string b.text,t,.int .i64 b.elem] 25 (0,0))) (h1:VO w B a s F1) (h2:VO w B b t F2)
  (hd:∀ j,F1 j -> ¬ F2 j) (g1:¬ F1 g) (g2:¬ F2 g) (hB:B <= g):VO w B (.mk 24 0 ⟨#[]⟩ [a,b] 0) (.slice (some ⟨g,0,none⟩) 2 2) (fun j=>j = g ∨ F1 j ∨ F2 j):=by
 have hl:(V.mk 24 0 ⟨#[]⟩ [a,b] 0).list = [a,b]:=rfl
 have hwf:(V.mk 24 0 ⟨#[]⟩ [] 0).Wf:=⟨by constructor <;> decide,by constructor <;> decide,by decide,by constructor <;> decide⟩
 refine .mk _ _ _ (fun i=>if i = 0 then s else t) (fun i=>if i = 0 then F1 else F2) ⟨hwf.k,hwf.n,hwf.t,hwf.e⟩ ?_ ?_ ?_ ?_ ?_
 ·exact ⟨rfl,.inr ⟨g,2,_,rfl,hB,hg,Nat.le_refl _,by unfold maxLen;omega,rfl,rfl⟩⟩
 ·intro i hi
  rw [hl] at hi
  match i,hi with
  | 0,_=>exact h1
  | 1,_=>exact h2
 ·intro i j hi hj hij x hx hy
  rw [hl] at hi hj
  match i,j,hi,hj with
  | 0,0,_,_=>exact hij rfl
  | 0,1,_,_=>exact hd x hx hy
  | 1,0,_,_=>exact hd x hy hx
  | 1,1,_,_=>exact hij rfl
 ·intro k hk i hi hx
  have hkg:g = k:=by simpa [Value.ownBlock] using hk
  subst hkg
  rw [hl] at hi
  match i,hi with
  | 0,_=>exact g1 hx
  | 1,_=>exact g2 hx
 ·intro x
  constructor
  ·rintro (rfl|h|h)
   ·exact .inl rfl
   ·exact .inr ⟨0,by rw [hl];exact Nat.zero_lt_two,h⟩
   ·exact .inr ⟨1,by rw [hl];exact Nat.one_lt_two,h⟩
  ·rintro (h|⟨i,hi,h⟩)
   ·exact .inl (by simpa [Value.ownBlock] using h.symm)
   ·rw [hl] at hi
    match i,hi with
    | 0,_=>exact .inr (.inl h)
    | 1,_=>exact .inr (.inr h)
theorem wp_build2 {o:Oper} {a:Act} {w:World} {K:Act -> World -> Prop} {Q:Exit -> Act -> World -> Prop} (d:Option Tmp) (hd:o.dst = d) (x y:Operand) (ho:o.op = .buildSlice 23 2 #[(0,x),(1,y)]) (a0 a1 a2 a3 a4 b0 b1 b2 b3 b4:Value)
  (hx:a.eval x = .agg #[a0,a1,a2,a3,a4]) (hy:a.eval y = .agg #[b0,b1,b2,b3,b4])
  (h:K (a.put d (.slice (some ⟨w.heap.size,0,none⟩) 2 2)) (w.alloc (.cells #[a0,a1,a2,a3,a4,b0,b1,b2,b3,b4] 25))):o.wp prog a w K Q:=by
 subst hd
 obtain ⟨i0,hi,hz0,hz1,hz2⟩:=info_partsV info_val
 refine wp_buildSlice 23 25 2 _ ho _ i0 _ underlying23 hi hz0 (by rw [hz1];decide) (by rw [hz1];decide) ?_ h
 rw [hz1]
 simp only [List.map_toArray,List.map_cons,List.map_nil,hx,hy]
 kernel_rfl
theorem wp_build1 {o:Oper} {a:Act} {w:World} {K:Act -> World -> Prop} {Q:Exit -> Act -> World -> Prop} (d:Option Tmp) (hd:o.dst = d) (x:Operand) (ho:o.op = .buildSlice 23 1 #[(0,x)]) (a0 a1 a2 a3 a4:Value)
  (hx:a.eval x = .agg #[a0,a1,a2,a3,a4])
  (h:K (a.put d (.slice (some ⟨w.heap.size,0,none⟩) 1 1)) (w.alloc (.cells #[a0,a1,a2,a3,a4] 25))):o.wp prog a w K Q:=by
 subst hd
 obtain ⟨i0,hi,hz0,hz1,hz2⟩:=info_partsV info_val
 refine wp_buildSlice 23 25 1 _ ho _ i0 _ underlying23 hi hz0 (by rw [hz1];decide) (by rw [hz1];decide) ?_ h
 rw [hz1]
 simp only [List.map_toArray,List.map_cons,List.map_nil,hx]
 kernel_rfl
theorem sOf_drop' {B:List UInt8} {a b k en:Nat} (h:a+k = b):(sOf B a en).drop k = sOf B b en:=by subst h;exact sOf_drop
theorem value_00 (d:Int) (w:World) (r:Nat) (p:Option Addr) (n cp at_ en:Nat) (sz own:Int) (B:List UInt8) (h:RdIn w r p n cp at_ en sz B) (hat:at_ < en) (hcd:(B.getD at_ 0).toNat = 0) (hd2:decide (32 < d) = false) (hwd:IntKind.i64.wrap (d+1) = d+1)
  (rv:List UInt8 -> Res) (hle:∀ s v k,rv s = .ok (v,k) -> k <= s.length) (hv:∀ (at2:Nat) (o2:Int) W,RdIn W r p n cp at2 en sz B -> Calls prog 38 #[.pointer (some ⟨r,0,none⟩),.int .i64 (d+1)] W fun e w'=>RdTo W r p n cp at2 en sz o2 (rv (sOf B at2 en)) e w') :
  Calls prog 38 #[.pointer (some ⟨r,0,none⟩),.int .i64 d] w fun e w'=>RdTo w r p n cp at_ en sz own (pairR rv (sOf B (at_+1) en)) e w':=by
 have hkd:kindC 0 = 24:=rfl
 have HVV:=zH hv
 have HLE:=zH hle
 clear hv hle
 have HNE:=zH (show ∀ W,RdIn W r p n cp at_ en sz B -> Calls prog 56 #[.pointer (some ⟨r,0,none⟩),.int .i64 1] W fun e w'=>e = .returned (.tuple #[])∧Below W.heap.size W w' from fun W hW=>need_ok W r p n cp at_ en sz hW.row 1 hW.ha (by omega) (by have:=hW.hen;have:=hW.hn;omega))
 have HK:=zH (fun W=>hkd ▸ kind_any (0) W)
 obtain ⟨b,o,hp,_,_⟩:=h.src.bytes.at_ (by have:=h.src.bytes.le;have:=h.hen;omega)
 subst hp
 have HC:=zH (show ∀ W,RdIn W r (some ⟨b,o,none⟩) n cp at_ en sz B -> W.cell? ⟨b,o+at_,none⟩ = some (.int .u8 (0:Nat)) from fun W hW=>by have:=hW.src.bytes.cell rfl at_ (by have:=hW.hen;omega);rw [this,hcd])
 have ib1:(0:Int) <= (at_:Nat):=by omega
 have ib2:((at_:Nat):Int) < (n:Nat):=by have:=h.hen;omega
 have ib3:((at_:Nat):Int) <= 140737488355328:=by have:=h.hn;omega
 obtain ⟨a1,ha1⟩:∃ a1,at_+1 = a1:=⟨_,rfl⟩
 have hadd:IntKind.i64.wrap ((at_:Int)+1) = (a1:Nat):=by rw [IntWalk.i64_in _ (by omega)];omega
 have HA1:=zH (And.intro ha1 (show a1 <= en by omega))
 clear hat hcd hkd ha1
 go_enter func38,ntmps38
 go_upto_region 1 with fail
 have hb0:Below w.heap.size w (w.alloc (.cells zR 25)):=((Below.refl _ _).alloc (Nat.le_refl _) _)
 have oy:=zN w (.cells zR 25)
 generalize (w.alloc (.cells zR 25)) = w0 at *
 obtain ⟨y,hy⟩:∃ y,w.heap.size = y:=⟨_,rfl⟩
 rw [hy] at oy ⊢
 have HR0:=zH (h.blw hb0)
 have HB0:=zH (And.intro hb0 (And.intro hy oy))
 have hlt:=zH h.lt
 clear hb0 hy oy h
 go_wp2_with fail
 refine (HNE.out _ HR0.out).mono ?_
 rintro e w1 ⟨rfl,hb1⟩
 have HR1:=zH (HR0.out.blw hb1)
 have oy1:=(hb1.block y (gl HB0.out.2.2)).trans HB0.out.2.2
 have HB1:=zH (And.intro hb1 oy1)
 have r0:w1.cell? ⟨r,0,none⟩ = some (.slice (some ⟨b,o,none⟩) n cp):=(cell_of_row _ _ 0 _ _ _ HR1.out.row).trans rfl
 have r1:w1.cell? ⟨r,1,none⟩ = some (.int .i64 (at_:Nat)):=(cell_of_row _ _ 1 _ _ _ HR1.out.row).trans rfl
 have fr:w1.frozen? ⟨r,1,none⟩ = false:=by simp [World.frozen?,HR1.out.row]
 have hcell:=HC.out w1 HR1.out
 clear hb1 oy1
 go_wp2_with fail
 refine (HK.out _).mono ?_
 rintro e w2 ⟨rfl,rfl⟩
 go_upto_region 10 with fail
 have hyr0:y ≠ r:=fun e=>by have:=hlt.out;have:=HB0.out.2.1;omega
 have or5:=heap_setCell_same w1 r 1 _ _ (.int .i64 (a1:Nat)) HR1.out.row
 have oy5:(w1.setCell ⟨r,1,none⟩ (.int .i64 (a1:Nat))).heap[y]? = some (.cells zR 25 (0,0)):=(set_farV hyr0).trans HB1.out.2
 have hk5:KeepF (fun g=>g = r) w1 (w1.setCell ⟨r,1,none⟩ (.int .i64 (a1:Nat))):=⟨rfl,rfl,rfl,by simp,fun j hj hne=>set_farV hne⟩
 change Code.wp _ _ _ _ (w1.setCell ⟨r,1,none⟩ (.int .i64 (a1:Nat)))
 generalize w1.setCell ⟨r,1,none⟩ (.int .i64 (a1:Nat)) = w2 at *
 have HR2:=zH (HR1.out.mv ⟨hk5,or5⟩ HA1.out.2)
 have HM2:=zH (((KeepF.of_below HB0.out.1).trans (KeepF.of_below HB1.out.1)).trans hk5)
 have HO2:=zH oy5
 clear or5 oy5 hk5 hyr0 r0 r1 fr hadd hcell
 go_wp2_with fail
 refine (HVV.out a1 own _ HR2.out).mono ?_
 rintro e w3 hto
 rcases hx:rv (sOf B a1 en) with y1|⟨dv,k⟩
 ·rw [hx] at hto
  obtain ⟨rfl,hk⟩:=hto
  have hp:pairR rv (sOf B (at_+1) en) = .error (shiftE 1 y1):=by rw [HA1.out.1];unfold pairR;rw [hx]
  refine ⟨rfl,?_⟩
  show RdTo w r _ n cp at_ en sz own (pairR rv (sOf B (at_+1) en)) _ _
  rw [hp]
  exact RdTo.shift_err HA1.out.1 y1 (HM2.out.trans hk)
 rw [hx] at hto
 obtain ⟨s1,F1,rfl,hvo,hmv⟩:=hto
 obtain ⟨ps,cs,hss,_,_⟩:=hvo.slice
 subst hss
 have oy3:=(hmv.keep.block y (gl HO2.out) (fun e=>by have:=hlt.out;have:=HB0.out.2.1;omega)).trans HO2.out
 have hkl:=HLE.out _ _ _ hx
 rw [sOf_len (by have:=HR2.out.hen;have:=HR2.out.len;omega)] at hkl
 obtain ⟨a2,ha2⟩:∃ a2,a1+k = a2:=⟨_,rfl⟩
 rw [ha2] at hmv
 have HXX:=zH hx
 have HA2:=zH (And.intro ha2 (show a2 <= en by have:=HA1.out.2;omega))
 have HV1:=zH (And.intro hvo (And.intro hmv oy3))
 clear hvo hmv oy3 hx ha2 hkl
 go_upto_region 13 with (refine stV (.tmp 8) (.tmp 47) rfl rfl rfl rfl rfl (zN _ _) rfl ?_)
 refine layW w3 ?_
 intro w4 hb4 oz
 obtain ⟨z,hz⟩:∃ z,w3.heap.size = z:=⟨_,rfl⟩
 rw [hz] at oz ⊢
 have HB4:=zH (And.intro hz hb4)
 have HR4:=zH ((HR2.out.mv HV1.out.2.1 HA2.out.2).blw hb4)
 have HM4:=zH (HM2.out.trans (HV1.out.2.1.keep.trans (KeepF.of_below hb4)))
 have HO4:=zH ((hb4.block y (gl HV1.out.2.2)).trans HV1.out.2.2)
 have HZ:=zH (show w4.drew.heap[z]? = some (.cells #[.int .i64 dv.kind,.int .u64 dv.num,.string dv.text,(.slice ps dv.list.length cs),.int .i64 dv.elem] 25 (0,0))∧r < z from ⟨oz,by have:=HR2.out.lt;have:=HV1.out.2.1.keep.size;omega⟩)
 clear hb4 oz hz
 refine wp_region_heldN (fun V=>V.heap[z]? = some (.cells #[.int .i64 dv.kind,.int .u64 dv.num,.string dv.text,(.slice ps dv.list.length cs),.int .i64 dv.elem] 25 (0,0))) 9 rfl (by kernel_rfl) ?_
 have hS:w4.drew.heap[z]? = some (.cells #[.int .i64 dv.kind,.int .u64 dv.num,.string dv.text,(.slice ps dv.list.length cs),.int .i64 dv.elem] 25 (0,0)):=HZ.out.1
 refine tkI 0 (.int .i64 24) 48 rfl rfl (by kernel_rfl) (fun _ _ _=>id) (by rfl) (by rintro V h0;go_simp) hS ?_
 try simp only [Act.put,sA,sB,sC]
 refine tkD (i:=1) (v:=.agg #[.int .i64 dv.kind,.int .u64 dv.num,.string dv.text,(.slice ps dv.list.length cs),.int .i64 dv.elem]) (some 49) rfl rfl (by kernel_rfl) (fun _ _ _ h=>h) (yieldsIf_load_row 25 (.tmp 8) rfl (by rfl) z rfl 25 _ (0,0) _ (fun V h=>h) underlying25 rfl (by as_aux_lemma=>kernel_rfl)) hS ?_
 try simp only [Act.put,sA,sB,sC]
 refine tkI 2 (.pointer (some ⟨r,0,none⟩)) 50 rfl rfl (by kernel_rfl) (fun _ _ _=>id) (by rfl) (by rintro V h0;go_simp) hS ?_
 try simp only [Act.put,sA,sB,sC]
 refine tkI 3 (.int .i64 d) 51 rfl rfl (by kernel_rfl) (fun _ _ _=>id) (by rfl) (by rintro V h0;go_simp) hS ?_
 try simp only [Act.put,sA,sB,sC]
 refine tkI 4 (.int .i64 (d+1)) 52 rfl rfl (by kernel_rfl) (fun _ _ _=>id) (by rfl) (by rintro V h0;go_simp) hS ?_
 try simp only [Act.put,sA,sB,sC]
 refine oneH (i:=5) (by kernel_rfl) ?_
 refine stepD (i:=5) rfl (by rfl) (fun K5 h5=>?_)
 go_simp
 (with_reducible refine (HVV.out a2 own w4.drew (HR4.out.blw (bdrew (Below.refl _ _)))).mono ?_)
 rintro e w5 hto2
 rcases hx2:rv (sOf B a2 en) with y2|⟨xv,k2⟩
 ·rw [hx2] at hto2
  obtain ⟨rfl,hk2⟩:=hto2
  have hp:pairR rv (sOf B (at_+1) en) = .error (shiftE (1+k) y2):=by rw [HA1.out.1];unfold pairR;rw [HXX.out];dsimp only;rw [sOf_drop' HA2.out.1,hx2]
  unfold faultE
  dsimp only
  go_wp2_with fail
  refine ⟨rfl,?_⟩
  show RdTo w r _ n cp at_ en sz own (pairR rv (sOf B (at_+1) en)) _ _
  rw [hp]
  exact RdTo.shift_err (by have:=HA1.out.1;have:=HA2.out.1;omega) y2 (HM4.out.trans ((KeepF.of_below (bdrew (Below.refl _ _))).trans hk2))
 rw [hx2] at hto2
 obtain ⟨s2,F2,rfl,hvo2,hmv2⟩:=hto2
 obtain ⟨qs,ds,hss2,_,_⟩:=hvo2.slice
 subst hss2
 have hz5:=(hmv2.keep.block z (gl hS) (fun e=>by have:=hlt.out;have:=HZ.out.2;omega)).trans hS
 have HX2:=zH hx2
 have HV2:=zH (And.intro hvo2 hmv2)
 clear hvo2 hmv2 hx2
 refine h5.out _ _ hz5 ?_
 clear h5
 try simp only [Act.put,sA,sB,sC]
 refine oneH (i:=6) (by kernel_rfl) ?_
 refine stepD (i:=6) rfl (by rfl) (fun K5 h5=>?_)
 refine wp_build2 (some 54) rfl (.tmp 49) (.tmp 53) rfl _ _ _ _ _ _ _ _ _ _ rfl rfl ?_
 have hz6:=(hao w5 (.cells #[.int .i64 dv.kind,.int .u64 dv.num,.string dv.text,(.slice ps dv.list.length cs),.int .i64 dv.elem,.int .i64 xv.kind,.int .u64 xv.num,.string xv.text,(.slice qs xv.list.length ds),.int .i64 xv.elem] 25) (gl hz5)).trans hz5
 refine h5.out _ _ hz6 ?_
 clear h5
 try simp only [Act.put,sA,sB,sC]
 refine tkD (i:=7) (v:=.agg #[.int .i64 24,.int .u64 0,.string ⟨#[]⟩,.slice (some ⟨w5.heap.size,0,none⟩) 2 2,.int .i64 0]) (some 55) rfl rfl (by kernel_rfl) (fun _ _ _ h=>h) (Or.inl ⟨by rfl,by rintro V h0;go_simp⟩) hz6 ?_
 try simp only [Act.put,sA,sB,sC]
 have hb6:Below w5.heap.size w5 (w5.alloc (.cells #[.int .i64 dv.kind,.int .u64 dv.num,.string dv.text,(.slice ps dv.list.length cs),.int .i64 dv.elem,.int .i64 xv.kind,.int .u64 xv.num,.string xv.text,(.slice qs xv.list.length ds),.int .i64 xv.elem] 25)):=((Below.refl _ _).alloc (Nat.le_refl _) _)
 have og6:=zN w5 (.cells #[.int .i64 dv.kind,.int .u64 dv.num,.string dv.text,(.slice ps dv.list.length cs),.int .i64 dv.elem,.int .i64 xv.kind,.int .u64 xv.num,.string xv.text,(.slice qs xv.list.length ds),.int .i64 xv.elem] 25)
 generalize (w5.alloc (.cells #[.int .i64 dv.kind,.int .u64 dv.num,.string dv.text,(.slice ps dv.list.length cs),.int .i64 dv.elem,.int .i64 xv.kind,.int .u64 xv.num,.string xv.text,(.slice qs xv.list.length ds),.int .i64 xv.elem] 25)) = w6 at *
 have oy6:w6.heap[y]? = some (.cells zR 25 (0,0)):=(hb6.block y (Nat.lt_of_lt_of_le (gl HO4.out) HV2.out.2.keep.size)).trans ((HV2.out.2.keep.block y (gl HO4.out) (fun e=>by have:=hlt.out;have:=HB0.out.2.1;omega)).trans HO4.out)
 have hyz:z ≠ y:=fun e=>by have:=(gl HV1.out.2.2);have:=HB4.out.1;omega
 have hz7:=(setRow_other w6 y z #[.int .i64 24,.int .u64 0,.string ⟨#[]⟩,.slice (some ⟨w5.heap.size,0,none⟩) 2 2,.int .i64 0] hyz).trans hz6
 refine oneH (i:=8) (by kernel_rfl) ?_
 refine stepD (i:=8) rfl (by rfl) (fun K5 h5=>?_)
 refine wp_store_rowN 25 (.tmp 4) (.tmp 55) rfl rfl y #[.int .i64 24,.int .u64 0,.string ⟨#[]⟩,.slice (some ⟨w5.heap.size,0,none⟩) 2 2,.int .i64 0] rfl rfl 25 zR oy6 (by as_aux_lemma=>kernel_rfl) (by as_aux_lemma=>kernel_rfl) (by simp [Value.oneCell']) ?_
 refine h5.out _ _ hz7 ?_
 clear h5
 try simp only [Act.put,sA,sB,sC]
 refine wpAnyH_done (by kernel_rfl) ?_ _
 have hh:=setRow_heap w6 y _ #[.int .i64 24,.int .u64 0,.string ⟨#[]⟩,.slice (some ⟨w5.heap.size,0,none⟩) 2 2,.int .i64 0] _ _ oy6
 change Exit.then _ _ _ _ (w6.setRow y #[.int .i64 24,.int .u64 0,.string ⟨#[]⟩,.slice (some ⟨w5.heap.size,0,none⟩) 2 2,.int .i64 0])
 go_wp2_with fail
 refine bodyPost_ret (results_cell_row (p:=4) (ty:=25) (by kernel_rfl) _ _ y 25 #[.int .i64 24,.int .u64 0,.string ⟨#[]⟩,.slice (some ⟨w5.heap.size,0,none⟩) 2 2,.int .i64 0] (0,0) _ rfl hh underlying25 rfl (by as_aux_lemma=>kernel_rfl)) rfl ?_
 have hp:pairR rv (sOf B (at_+1) en) = .ok (.mk 24 0 ⟨#[]⟩ [dv,xv] 0,1+k+k2):=by rw [HA1.out.1];unfold pairR;rw [HXX.out];dsimp only;rw [sOf_drop' HA2.out.1,HX2.out]
 show RdTo w r _ n cp at_ en sz own (pairR rv (sOf B (at_+1) en)) _ _
 rw [hp]
 have z1:=HM2.out.size
 have z2:=HV1.out.2.1.keep.size
 have z3:w3.heap.size <= w4.heap.size:=HB4.out.2.size
 have z4:w4.heap.size <= w5.heap.size:=HV2.out.2.keep.size
 have z5:=hlt.out
 have z6:=HB0.out.2.1
 have z7:=HR2.out.lt
 have z8:=(gl HO2.out)
 have v1:VO w6 w.heap.size dv (.slice ps dv.list.length cs) F1:=(HV1.out.1.mono z1).keep (fun j hj=>by
  have q1:=HV1.out.1.lt j hj
  exact (hb6.block j (by omega)).trans ((HV2.out.2.keep.block j (show j < w4.heap.size by omega) (fun e=>by omega)).trans (HB4.out.2.block j q1.2)))
 have v2:VO w6 w.heap.size xv (.slice qs xv.list.length ds) F2:=(HV2.out.1.mono (show w.heap.size <= w4.heap.size by omega)).blw hb6
 have v3:=VO.pair og6 v1 v2 (fun j q1 q2=>by have:=(HV1.out.1.lt j q1).2;have:=(HV2.out.1.lt j q2).1;have e:w4.drew.heap.size = w4.heap.size:=rfl;omega) (fun q=>by have:=(HV1.out.1.lt _ q).2;omega) (fun q=>by have:=(HV2.out.1.lt _ q).2;omega) (by omega)
 have hkk:=HM4.out.trans ((KeepF.of_below (bdrew (Below.refl _ _))).trans (HV2.out.2.keep.trans (KeepF.of_below hb6)))
 have hyr:r ≠ y:=fun e=>by omega
 refine ⟨_,_,rfl,v3.keep (fun j hj=>setRow_other w6 y j _ (fun e=>?_)),⟨⟨hkk.os,hkk.tape,hkk.output,Nat.le_trans hkk.size (by simp),fun j hj hne=>(setRow_other w6 y j _ (fun e=>by omega)).trans (hkk.block j hj hne)⟩,?_⟩⟩
 ·rcases hj with q|q|q
  ·omega
  ·have:=(HV1.out.1.lt j q).1;omega
  ·have:=(HV2.out.1.lt j q).1;have e:w4.drew.heap.size = w4.heap.size:=rfl;omega
 rw [show at_+(1+k+k2) = a2+k2 by have:=HA1.out.1;have:=HA2.out.1;omega]
 exact (setRow_other w6 y r _ hyr).trans ((hb6.block r (by omega)).trans HV2.out.2.at_)
end Go.Proofs.YtnnnfhobbnjmfaaGreatDoor
