/-
  Lemmas on the codec. Conditions: as each says.
-/
import Derived.Test.YtnnnfhobbnjmfaaGreatDoorWn12
import Derived.Test.YtnnnfhobbnjmfaaGreatDoorWn09
import Derived.StillTailTactics
import Derived.Great.BuildSlice
namespace Go.Proofs.YtnnnfhobbnjmfaaGreatDoor
open Go.RowKit Go.Proofs.Tryz
set_option linter.all false
set_option maxHeartbeats 40000000
set_option maxRecDepth 20000

attribute [local go_sem] Oper.semAt_some

theorem data_any {c:Nat} (hc:DatC c) (v:V) (w:World) (s:Value) (h:VIn w v s) (out:Value) (l:List UInt8) (B:Nat) (ho:OwnBytes w B 5 out l) (hB:B <= w.heap.size) (bh:Value) (bl:List UInt8) (B2:Nat) (hb:OwnBytes w B2 5 bh bl) (hap:bh.ownBlock = none ∨ bh.ownBlock ≠ out.ownBlock) (hlen:l.length+v.text.size+bl.length+v.list.length <= 1000000000000) :
  Calls prog 54 #[out,.int .u8 c,.agg #[.int .i64 v.kind,.int .u64 v.num,.string v.text,s,.int .i64 v.elem],bh] w (DataTo w B out (l ++ datB c v bl)):=by
 by_cases h8:c / 16 <= 8
 ·have:=datC_mem hc
  rw [show datB c v bl = putL v.num.toNat (widC c) by unfold datB;rw [if_neg (by omega),if_neg (by omega),if_neg (by omega)]]
  exact data_num (c:=c) (by omega) (by omega) v w s h out l B ho hB bh bl B2 hb hap hlen
 have hm:c = 148 ∨ c = 152 ∨ c = 160 ∨ c = 176 ∨ c = 161 ∨ c = 177 ∨ c = 163 ∨ c = 179 ∨ c = 192 ∨ c = 208 ∨ c = 193 ∨ c = 209 ∨ c = 224 ∨ c = 240:=by have:=datC_mem hc;omega
 rcases hm with rfl|rfl|rfl|rfl|rfl|rfl|rfl|rfl|rfl|rfl|rfl|rfl|rfl|rfl
 ·exact data_94 v w s h out l B ho hB bh bl B2 hb hap hlen
 ·exact data_98 v w s h out l B ho hB bh bl B2 hb hap hlen
 ·exact data_a0 v w s h out l B ho hB bh bl B2 hb hap hlen
 ·exact data_b0 v w s h out l B ho hB bh bl B2 hb hap hlen
 ·exact data_a1 v w s h out l B ho hB bh bl B2 hb hap hlen
 ·exact data_b1 v w s h out l B ho hB bh bl B2 hb hap hlen
 ·exact data_a3 v w s h out l B ho hB bh bl B2 hb hap hlen
 ·exact data_b3 v w s h out l B ho hB bh bl B2 hb hap hlen
 ·exact data_c0 v w s h out l B ho hB bh bl B2 hb hap hlen
 ·exact data_d0 v w s h out l B ho hB bh bl B2 hb hap hlen
 ·exact data_c1 v w s h out l B ho hB bh bl B2 hb hap hlen
 ·exact data_d1 v w s h out l B ho hB bh bl B2 hb hap hlen
 ·exact data_e0 v w s h out l B ho hB bh bl B2 hb hap hlen
 ·exact data_f0 v w s h out l B ho hB bh bl B2 hb hap hlen
theorem bytes_lit (w:World) (c:Nat) (hc:c < 256):BytesIn (w.alloc (.cells #[.int .u8 (c:Int)] 5)) (some ⟨w.heap.size,0,none⟩) 1 1 [UInt8.ofNat c]:=by
 have h:=Blk.of_cells (w:=w.alloc (.cells #[.int .u8 (c:Int)] 5)) (b:=w.heap.size) (T:=5) (l:=[UInt8.ofNat c]) (zN w _) (by simp [byteV];omega)
 exact h.all 1 1 rfl (Nat.le_refl _) (by unfold maxLen;omega)
theorem bdrew {n:Nat} {w W:World} (h:Below n w W):Below n w W.drew:=⟨h.os,h.tape,h.output,h.size,h.block⟩
def PutTo (w w0:World) (out:Value) (l:List UInt8) (e:Ending) (w':World):Prop:=∃ u,e = .returned u∧OwnBytes w' w0.heap.size 5 u l∧Gw w w' out u
def InnOn (v:V):Prop:=Right v -> v.wt <= 4294967296 -> ∀ (w:World) (s:Value),VIn w v s -> Calls prog 51 #[.agg #[.int .i64 v.kind,.int .u64 v.num,.string v.text,s,.int .i64 v.elem]] w fun e w'=>∃ u,e = .returned u∧OwnBytes w' w.heap.size 5 u (inn v)∧Below w.heap.size w w'
def UniOn (v:V):Prop:=Right v -> v.wt <= 4294967296 -> v.kind = 23 -> ∀ (w:World) (s:Value),VIn w v s -> Calls prog 75 #[.agg #[.int .i64 v.kind,.int .u64 v.num,.string v.text,s,.int .i64 v.elem]] w fun e w'=>∃ u,e = .returned u∧OwnBytes w' w.heap.size 5 u (inn v)∧Below w.heap.size w w'
def PutOn (v:V):Prop:=Right v -> v.wt <= 4294967296 -> ∀ (w w0:World) (s out:Value) (l:List UInt8),VIn w0 v s -> Below w0.heap.size w0 w -> OwnBytes w w0.heap.size 5 out l -> l.length+81 * v.wt <= 500000000000 →
  Calls prog 34 #[out,.agg #[.int .i64 v.kind,.int .u64 v.num,.string v.text,s,.int .i64 v.elem]] w (PutTo w w0 out (l ++ putV v))
theorem span_kind {c:Nat} (h:DatC c) (h2:12 <= c / 16):kindC c = 21 ∨ kindC c = 22 ∨ kindC c = 23:=by
 revert h2
 refine datC_of (P:=fun c=>12 <= c / 16 -> kindC c = 21 ∨ kindC c = 22 ∨ kindC c = 23) h (by decide) (by decide) (by decide) (by decide) (by decide) (by decide) (by decide) (by decide) (by decide) (by decide) (by decide) (by decide) (by decide) (by decide) (by decide) (by decide) (by decide) (by decide) (by decide) (by decide) (by decide) (by decide) (by decide) (by decide) (by decide) (by decide) (by decide) (by decide) (by decide) (by decide) (by decide) (by decide) (by decide)
theorem put_of (v:V) (ih:∀ x ∈ v.list,PutOn x) (hin:InnOn v):PutOn v:=by
 intro hr hwt w wv s out l hv hbv ho hll
 have f:=hr.fields
 obtain ⟨p,cs,hs,h1,h2,h3⟩:=hv.slice
 obtain ⟨N,hN⟩:∃ N,v.list.length = N:=⟨_,rfl⟩
 rw [hN] at hs h1 h3
 subst hs
 have htw:=text_wt v
 have hiw:=inn_wt v
 have hlw:=list_wt v
 have HV:=zH (And.intro hv (And.intro hbv (And.intro ho (And.intro hN h3))))
 have HR:=zH (And.intro hr (And.intro hwt (And.intro f (And.intro htw (And.intro hiw hlw)))))
 have HL:=zH hll
 clear hv hbv ho hN h1 h2 h3 hr hwt f htw hiw hlw hll
 go_enter func34,ntmps34
 go_upto_region 1 with fail
 have hb0:Below w.heap.size w (w.alloc (.cells #[.int .i64 v.kind,.int .u64 v.num,.string v.text,(.slice p N cs),.int .i64 v.elem] 25)):=((Below.refl _ _).alloc (Nat.le_refl _) _)
 have ox:=zN w (.cells #[.int .i64 v.kind,.int .u64 v.num,.string v.text,(.slice p N cs),.int .i64 v.elem] 25)
 generalize (w.alloc (.cells #[.int .i64 v.kind,.int .u64 v.num,.string v.text,(.slice p N cs),.int .i64 v.elem] 25)) = w0 at *
 obtain ⟨x,hx⟩:∃ x,w.heap.size = x:=⟨_,rfl⟩
 rw [hx] at ox ⊢
 have HB0:=zH hb0
 obtain ⟨x0,x1,x2,x3,x4⟩:=c5 ox
 have HX:=zH hx
 have HOX:=zH ox
 clear hb0 hx
 clear ox
 have HW0:=zH (show Below wv.heap.size wv w0 from HV.out.2.1.trans (HB0.out.mono HV.out.2.1.size))
 have HO0:=zH (show OwnBytes w0 wv.heap.size 5 out l from HV.out.2.2.1.of_below HB0.out)
 have HNX:=zH (show out.ownBlock ≠ some x from fun e=>by have h1:=(HV.out.2.2.1.row.lt _ e).2;have h2:=HX.out;omega)
 have hc:=lone_any v w0 _ (HV.out.1.blw HW0.out)
 have HC:=zH hc
 clear hc
 go_wp2_with fail
 refine HC.out.mono ?_
 clear x0 x1 x2 x3 x4
 rintro e w1 ⟨rfl,hb1⟩
 have HB1:=zH hb1
 have HX1:=zH ((hb1.block x (gl HOX.out)).trans HOX.out)
 have HW1:=zH (HW0.out.trans (hb1.mono HW0.out.size))
 have HO1:=zH (HO0.out.of_below hb1)
 clear hb1
 have x0:w1.cell? ⟨x,0,none⟩ = some (.int .i64 v.kind):=(cell_of_row _ _ 0 _ _ _ HX1.out).trans rfl
 obtain ⟨D,hD⟩:∃ D,loneC v = D:=⟨_,rfl⟩
 rw [hD]
 have hput:=putV_eq v
 rw [hD] at hput
 have HD:=zH (And.intro hD hput)
 clear hD hput
 cases D with
 | some c =>
  have hc256:=(lone_form HR.out.1 HD.out.1).1
  have HC2:=zH hc256
  have HPV:=zH (show putV v = [UInt8.ofNat c] from HD.out.2)
  clear hc256
  simp only [Option.getD_some,Option.isSome_some]
  go_wp2_with (first
   | (at_builtin;refine wpList_append_bytesF rfl (.tmp 16) (.tmp 18) 28 rfl wv.heap.size underlying28 info_u8 out l [UInt8.ofNat c] _ 1 1 rfl rfl (HO1.out.of_below ((Below.refl _ _).alloc (Nat.le_refl _) _)) (bytes_lit _ c HC2.out) (by have:=HL.out;omega) (by have:=HW1.out.size;simp;omega) ?_;intro u w2 ho2 hg2;have HO2:=zH ho2;have HG2:=zH hg2;clear ho2 hg2))
  go_ret
  exact ⟨_,rfl,by rw [HPV.out];exact HO2.out,((HG2.out.pre ((Below.refl _ _).alloc (Nat.le_refl _) _)).pre HB1.out).pre HB0.out⟩
 | none =>
  simp only [Option.getD_none,Option.isSome_none]
  by_cases h24:v.kind = 24
  ·have HPV:=zH (show putV v = 0 :: inn v from by have h:=HD.out.2;simp only at h;rw [if_pos h24] at h;exact h)
   have hp:=HR.out.2.2.1.pair h24
   have hN2:N = 2:=by rw [← HV.out.2.2.2.1];exact hp
   subst hN2
   obtain ⟨b,o,rfl⟩:=HV.out.2.2.2.2 (by omega)
   obtain ⟨sa,hsa,hva⟩:=HV.out.1.part (i:=0) rfl (by rw [HV.out.2.2.2.1];omega)
   obtain ⟨sb,hsb,hvb⟩:=HV.out.1.part (i:=1) rfl (by rw [HV.out.2.2.2.1];omega)
   have hma:=List.getElem_mem (l:=v.list) (n:=0) (by rw [HV.out.2.2.2.1];omega)
   have hmb:=List.getElem_mem (l:=v.list) (n:=1) (by rw [HV.out.2.2.2.1];omega)
   have hinn:inn v = putV v.list[0] ++ putV v.list[1]:=by
    rw [inn_eq,if_neg (by omega)]
    have hl2:v.list = [v.list[0],v.list[1]]:=List.ext_getElem (by simpa using hp) (fun i h1 h2=>by
     simp only [List.length_cons,List.length_nil] at h2
     match i,h2 with
     | 0,_=>rfl
     | 1,_=>rfl)
    conv=>lhs;rw [hl2]
    simp [putVs]
   have hpa:=ih _ hma (HR.out.1.part hma) (by have:=V.wt_lt hma;have:=HR.out.2.1;omega)
   have hpb:=ih _ hmb (HR.out.1.part hmb) (by have:=V.wt_lt hmb;have:=HR.out.2.1;omega)
   have hlb:=(putV_len v.list[0]).2
   have hwa:1+(v.list[0].wt+v.list[1].wt) <= v.wt:=by
    have h9:=v.wt_eq
    have hl2:v.list = [v.list[0],v.list[1]]:=List.ext_getElem (by simpa using hp) (fun i h1 h2=>by
     simp only [List.length_cons,List.length_nil] at h2
     match i,h2 with
     | 0,_=>rfl
     | 1,_=>rfl)
    have h8:wts v.list = v.list[0].wt+v.list[1].wt:=by
     conv=>lhs;rw [hl2]
     simp [wts]
    omega
   generalize v.list[0] = a at *
   generalize v.list[1] = b2 at *
   have HA:=zH (And.intro hsa (And.intro hva (And.intro hsb (And.intro hvb (And.intro hinn (And.intro hpa (And.intro hpb (And.intro hlb hwa))))))))
   have HCA:=zH (fun (W:World) (hW:Below wv.heap.size wv W)=>And.intro (part_cells (rangeAt_rd hsa (rd_below hW))) (part_cells (rangeAt_rd hsb (rd_below hW))))
   clear hsa hva hsb hvb hinn hpa hpb hlb hwa hma hmb hp
   go_upto_region 6 with fail
   clear x0
   refine wp_region_heldN (fun V=>V.heap[x]? = some (.cells #[.int .i64 v.kind,.int .u64 v.num,.string v.text,.slice (some ⟨b,o,none⟩) 2 cs,.int .i64 v.elem] 25 (0,0))∧(V.cell? ⟨b,o+0 * 5,none⟩ = some (.int .i64 a.kind)∧V.cell? ⟨b,o+0 * 5+1,none⟩ = some (.int .u64 a.num)∧V.cell? ⟨b,o+0 * 5+2,none⟩ = some (.string a.text)∧V.cell? ⟨b,o+0 * 5+3,none⟩ = some (sa)∧V.cell? ⟨b,o+0 * 5+4,none⟩ = some (.int .i64 a.elem))∧V.cell? ⟨b,o+1 * 5,none⟩ = some (.int .i64 b2.kind)∧V.cell? ⟨b,o+1 * 5+1,none⟩ = some (.int .u64 b2.num)∧V.cell? ⟨b,o+1 * 5+2,none⟩ = some (.string b2.text)∧V.cell? ⟨b,o+1 * 5+3,none⟩ = some (sb)∧V.cell? ⟨b,o+1 * 5+4,none⟩ = some (.int .i64 b2.elem)) 14 rfl (by kernel_rfl) ?_
   have hS:(w1.drew.heap[x]? = some (.cells #[.int .i64 v.kind,.int .u64 v.num,.string v.text,.slice (some ⟨b,o,none⟩) 2 cs,.int .i64 v.elem] 25 (0,0))∧(w1.drew.cell? ⟨b,o+0 * 5,none⟩ = some (.int .i64 a.kind)∧w1.drew.cell? ⟨b,o+0 * 5+1,none⟩ = some (.int .u64 a.num)∧w1.drew.cell? ⟨b,o+0 * 5+2,none⟩ = some (.string a.text)∧w1.drew.cell? ⟨b,o+0 * 5+3,none⟩ = some (sa)∧w1.drew.cell? ⟨b,o+0 * 5+4,none⟩ = some (.int .i64 a.elem))∧w1.drew.cell? ⟨b,o+1 * 5,none⟩ = some (.int .i64 b2.kind)∧w1.drew.cell? ⟨b,o+1 * 5+1,none⟩ = some (.int .u64 b2.num)∧w1.drew.cell? ⟨b,o+1 * 5+2,none⟩ = some (.string b2.text)∧w1.drew.cell? ⟨b,o+1 * 5+3,none⟩ = some (sb)∧w1.drew.cell? ⟨b,o+1 * 5+4,none⟩ = some (.int .i64 b2.elem)):=⟨HX1.out,HCA.out _ (bdrew HW1.out)⟩
   refine tkI 0 (out) 24 rfl rfl (by kernel_rfl) (fun _ _ _=>id) (by rfl) (by rintro V ⟨h0,⟨c0,c1,c2,c3,c4⟩,d0,d1,d2,d3,d4⟩;go_simp) hS ?_
   try simp only [Act.put,sA,sB,sC]
   refine tkI 3 (.pointer (some ⟨x,3,none⟩)) 27 rfl rfl (by kernel_rfl) (fun _ _ _=>id) (by rfl) (by rintro V ⟨h0,⟨c0,c1,c2,c3,c4⟩,d0,d1,d2,d3,d4⟩;go_simp) hS ?_
   try simp only [Act.put,sA,sB,sC]
   refine tkI 4 (.slice (some ⟨b,o,none⟩) 2 cs) 28 rfl rfl (by kernel_rfl) (fun _ _ _=>id) (by rfl) (by rintro V ⟨h0,⟨c0,c1,c2,c3,c4⟩,d0,d1,d2,d3,d4⟩;have y3:=(cell_of_row V _ 3 _ _ _ h0).trans rfl;simp only [Nat.zero_mul,Nat.add_zero,Nat.one_mul] at c0 c1 c2 c3 c4 d0 d1 d2 d3 d4;go_simp) hS ?_
   try simp only [Act.put,sA,sB,sC]
   refine tkI 5 (.pointer (some ⟨b,o,none⟩)) 29 rfl rfl (by kernel_rfl) (fun _ _ _=>id) (by rfl) (by rintro V ⟨h0,⟨c0,c1,c2,c3,c4⟩,d0,d1,d2,d3,d4⟩;have y3:=(cell_of_row V _ 3 _ _ _ h0).trans rfl;simp only [Nat.zero_mul,Nat.add_zero,Nat.one_mul] at c0 c1 c2 c3 c4 d0 d1 d2 d3 d4;go_simp) hS ?_
   try simp only [Act.put,sA,sB,sC]
   refine tkI 6 (.agg #[.int .i64 a.kind,.int .u64 a.num,.string a.text,sa,.int .i64 a.elem]) 30 rfl rfl (by kernel_rfl) (fun _ _ _=>id) (by rfl) (by rintro V ⟨h0,⟨c0,c1,c2,c3,c4⟩,d0,d1,d2,d3,d4⟩;have y3:=(cell_of_row V _ 3 _ _ _ h0).trans rfl;simp only [Nat.zero_mul,Nat.add_zero,Nat.one_mul] at c0 c1 c2 c3 c4 d0 d1 d2 d3 d4;go_simp) hS ?_
   try simp only [Act.put,sA,sB,sC]
   refine tkI 8 (.pointer (some ⟨x,3,none⟩)) 32 rfl rfl (by kernel_rfl) (fun _ _ _=>id) (by rfl) (by rintro V ⟨h0,⟨c0,c1,c2,c3,c4⟩,d0,d1,d2,d3,d4⟩;go_simp) hS ?_
   try simp only [Act.put,sA,sB,sC]
   refine tkI 9 (.slice (some ⟨b,o,none⟩) 2 cs) 33 rfl rfl (by kernel_rfl) (fun _ _ _=>id) (by rfl) (by rintro V ⟨h0,⟨c0,c1,c2,c3,c4⟩,d0,d1,d2,d3,d4⟩;have y3:=(cell_of_row V _ 3 _ _ _ h0).trans rfl;simp only [Nat.zero_mul,Nat.add_zero,Nat.one_mul] at c0 c1 c2 c3 c4 d0 d1 d2 d3 d4;go_simp) hS ?_
   try simp only [Act.put,sA,sB,sC]
   refine tkI 10 (.pointer (some ⟨b,o+5,none⟩)) 34 rfl rfl (by kernel_rfl) (fun _ _ _=>id) (by rfl) (by rintro V ⟨h0,⟨c0,c1,c2,c3,c4⟩,d0,d1,d2,d3,d4⟩;have y3:=(cell_of_row V _ 3 _ _ _ h0).trans rfl;simp only [Nat.zero_mul,Nat.add_zero,Nat.one_mul] at c0 c1 c2 c3 c4 d0 d1 d2 d3 d4;go_simp) hS ?_
   try simp only [Act.put,sA,sB,sC]
   refine tkI 11 (.agg #[.int .i64 b2.kind,.int .u64 b2.num,.string b2.text,sb,.int .i64 b2.elem]) 35 rfl rfl (by kernel_rfl) (fun _ _ _=>id) (by rfl) (by rintro V ⟨h0,⟨c0,c1,c2,c3,c4⟩,d0,d1,d2,d3,d4⟩;have y3:=(cell_of_row V _ 3 _ _ _ h0).trans rfl;simp only [Nat.zero_mul,Nat.add_zero,Nat.one_mul] at c0 c1 c2 c3 c4 d0 d1 d2 d3 d4;go_simp) hS ?_
   try simp only [Act.put,sA,sB,sC]
   refine oneH (i:=1) (by kernel_rfl) ?_
   refine stepD (i:=1) rfl (by rfl) (fun K5 h5=>?_)
   go_simp
   have hbl:Below wv.heap.size wv (w1.drew.alloc (.cells #[.int .u8 0] 5)):=(bdrew HW1.out).alloc (show wv.heap.size <= w1.drew.heap.size from HW1.out.size) _
   have hS:((w1.drew.alloc (.cells #[.int .u8 0] 5)).heap[x]? = some (.cells #[.int .i64 v.kind,.int .u64 v.num,.string v.text,.slice (some ⟨b,o,none⟩) 2 cs,.int .i64 v.elem] 25 (0,0))∧((w1.drew.alloc (.cells #[.int .u8 0] 5)).cell? ⟨b,o+0 * 5,none⟩ = some (.int .i64 a.kind)∧(w1.drew.alloc (.cells #[.int .u8 0] 5)).cell? ⟨b,o+0 * 5+1,none⟩ = some (.int .u64 a.num)∧(w1.drew.alloc (.cells #[.int .u8 0] 5)).cell? ⟨b,o+0 * 5+2,none⟩ = some (.string a.text)∧(w1.drew.alloc (.cells #[.int .u8 0] 5)).cell? ⟨b,o+0 * 5+3,none⟩ = some (sa)∧(w1.drew.alloc (.cells #[.int .u8 0] 5)).cell? ⟨b,o+0 * 5+4,none⟩ = some (.int .i64 a.elem))∧(w1.drew.alloc (.cells #[.int .u8 0] 5)).cell? ⟨b,o+1 * 5,none⟩ = some (.int .i64 b2.kind)∧(w1.drew.alloc (.cells #[.int .u8 0] 5)).cell? ⟨b,o+1 * 5+1,none⟩ = some (.int .u64 b2.num)∧(w1.drew.alloc (.cells #[.int .u8 0] 5)).cell? ⟨b,o+1 * 5+2,none⟩ = some (.string b2.text)∧(w1.drew.alloc (.cells #[.int .u8 0] 5)).cell? ⟨b,o+1 * 5+3,none⟩ = some (sb)∧(w1.drew.alloc (.cells #[.int .u8 0] 5)).cell? ⟨b,o+1 * 5+4,none⟩ = some (.int .i64 b2.elem)):=⟨(hao w1.drew _ (gl HX1.out)).trans HX1.out,HCA.out _ hbl⟩
   refine h5.out _ _ hS ?_
   clear h5
   try simp only [Act.put,sA,sB,sC]
   have HBL:=zH hbl
   have HXL:=zH hS.1
   refine oneH (i:=2) (by kernel_rfl) ?_
   refine stepD (i:=2) rfl (by rfl) (fun K5 h5=>?_)
   refine wp_append_bytesF (.tmp 24) (.tmp 25) 28 rfl wv.heap.size underlying28 info_u8 out l [UInt8.ofNat 0] _ 1 1 rfl rfl (HO1.out.of_below ((Below.refl _ _).drew.alloc (Nat.le_refl _) _)) (bytes_lit w1.drew 0 (by omega)) (by have:=HL.out;omega) (by have:=HBL.out.size;exact this) ?_
   intro u3 w3 ho3 hg3
   have hg3':=Gw.pre (w:=w1) ((Below.refl _ _).drew.alloc (Nat.le_refl _) _) hg3
   have hb3:Below wv.heap.size wv w3:=HW1.out.trans (hg3'.below HO1.out HW1.out.size)
   have hx3:=(hg3.g.block x (gl HXL.out) (fun e=>HNX.out e.symm)).trans HXL.out
   clear hS
   have hS:(w3.heap[x]? = some (.cells #[.int .i64 v.kind,.int .u64 v.num,.string v.text,.slice (some ⟨b,o,none⟩) 2 cs,.int .i64 v.elem] 25 (0,0))∧(w3.cell? ⟨b,o+0 * 5,none⟩ = some (.int .i64 a.kind)∧w3.cell? ⟨b,o+0 * 5+1,none⟩ = some (.int .u64 a.num)∧w3.cell? ⟨b,o+0 * 5+2,none⟩ = some (.string a.text)∧w3.cell? ⟨b,o+0 * 5+3,none⟩ = some (sa)∧w3.cell? ⟨b,o+0 * 5+4,none⟩ = some (.int .i64 a.elem))∧w3.cell? ⟨b,o+1 * 5,none⟩ = some (.int .i64 b2.kind)∧w3.cell? ⟨b,o+1 * 5+1,none⟩ = some (.int .u64 b2.num)∧w3.cell? ⟨b,o+1 * 5+2,none⟩ = some (.string b2.text)∧w3.cell? ⟨b,o+1 * 5+3,none⟩ = some (sb)∧w3.cell? ⟨b,o+1 * 5+4,none⟩ = some (.int .i64 b2.elem)):=⟨hx3,HCA.out _ hb3⟩
   refine h5.out _ _ hS ?_
   clear h5
   try simp only [Act.put,sA,sB,sC]
   have HO3:=zH ho3
   have HG3:=zH hg3'
   have HB3:=zH hb3
   have HX3:=zH hx3
   have HNX3:=zH (show u3.ownBlock ≠ some x from fun e=>by
    rcases hg3'.o x e with q|q
    ·exact HNX.out q
    ·have h1:=(gl HX1.out);omega)
   clear ho3 hg3 hg3' hb3 hx3 hbl
   refine oneH (i:=7) (by kernel_rfl) ?_
   refine stepD (i:=7) rfl (by rfl) (fun K5 h5=>?_)
   go_simp
   (with_reducible refine (HA.out.2.2.2.2.2.1 w3 wv sa u3 (l ++ [UInt8.ofNat 0]) HA.out.2.1 HB3.out HO3.out (by have h1:=HL.out;have h2:=HA.out.2.2.2.2.2.2.2;simp only [List.length_append,List.length_cons,List.length_nil];omega)).mono ?_)
   rintro e w4 ⟨u4,rfl,ho4,hg4⟩
   have hb4:Below wv.heap.size wv w4:=HB3.out.trans (hg4.below HO3.out HB3.out.size)
   have hx4:=(hg4.g.block x (gl HX3.out) (fun e=>HNX3.out e.symm)).trans HX3.out
   clear hS
   have hS:(w4.heap[x]? = some (.cells #[.int .i64 v.kind,.int .u64 v.num,.string v.text,.slice (some ⟨b,o,none⟩) 2 cs,.int .i64 v.elem] 25 (0,0))∧(w4.cell? ⟨b,o+0 * 5,none⟩ = some (.int .i64 a.kind)∧w4.cell? ⟨b,o+0 * 5+1,none⟩ = some (.int .u64 a.num)∧w4.cell? ⟨b,o+0 * 5+2,none⟩ = some (.string a.text)∧w4.cell? ⟨b,o+0 * 5+3,none⟩ = some (sa)∧w4.cell? ⟨b,o+0 * 5+4,none⟩ = some (.int .i64 a.elem))∧w4.cell? ⟨b,o+1 * 5,none⟩ = some (.int .i64 b2.kind)∧w4.cell? ⟨b,o+1 * 5+1,none⟩ = some (.int .u64 b2.num)∧w4.cell? ⟨b,o+1 * 5+2,none⟩ = some (.string b2.text)∧w4.cell? ⟨b,o+1 * 5+3,none⟩ = some (sb)∧w4.cell? ⟨b,o+1 * 5+4,none⟩ = some (.int .i64 b2.elem)):=⟨hx4,HCA.out _ hb4⟩
   refine h5.out _ _ hS ?_
   clear h5
   try simp only [Act.put,sA,sB,sC]
   have HO4:=zH ho4
   have HG4:=zH hg4
   have HB4:=zH hb4
   have HX4:=zH hx4
   have HNX4:=zH (show u4.ownBlock ≠ some x from fun e=>by
    rcases hg4.o x e with q|q
    ·exact HNX3.out q
    ·have h1:=(gl HX3.out);omega)
   clear ho4 hg4 hb4 hx4
   refine oneH (i:=12) (by kernel_rfl) ?_
   refine stepD (i:=12) rfl (by rfl) (fun K5 h5=>?_)
   go_simp
   (with_reducible refine (HA.out.2.2.2.2.2.2.1 w4 wv sb u4 _ HA.out.2.2.2.1 HB4.out HO4.out (by have h1:=HL.out;have h2:=HA.out.2.2.2.2.2.2.2;simp only [List.length_append,List.length_cons,List.length_nil];omega)).mono ?_)
   rintro e w5 ⟨u5,rfl,ho5,hg5⟩
   have hb5:Below wv.heap.size wv w5:=HB4.out.trans (hg5.below HO4.out HB4.out.size)
   have hx5:=(hg5.g.block x (gl HX4.out) (fun e=>HNX4.out e.symm)).trans HX4.out
   clear hS
   have hS:(w5.heap[x]? = some (.cells #[.int .i64 v.kind,.int .u64 v.num,.string v.text,.slice (some ⟨b,o,none⟩) 2 cs,.int .i64 v.elem] 25 (0,0))∧(w5.cell? ⟨b,o+0 * 5,none⟩ = some (.int .i64 a.kind)∧w5.cell? ⟨b,o+0 * 5+1,none⟩ = some (.int .u64 a.num)∧w5.cell? ⟨b,o+0 * 5+2,none⟩ = some (.string a.text)∧w5.cell? ⟨b,o+0 * 5+3,none⟩ = some (sa)∧w5.cell? ⟨b,o+0 * 5+4,none⟩ = some (.int .i64 a.elem))∧w5.cell? ⟨b,o+1 * 5,none⟩ = some (.int .i64 b2.kind)∧w5.cell? ⟨b,o+1 * 5+1,none⟩ = some (.int .u64 b2.num)∧w5.cell? ⟨b,o+1 * 5+2,none⟩ = some (.string b2.text)∧w5.cell? ⟨b,o+1 * 5+3,none⟩ = some (sb)∧w5.cell? ⟨b,o+1 * 5+4,none⟩ = some (.int .i64 b2.elem)):=⟨hx5,HCA.out _ hb5⟩
   refine h5.out _ _ hS ?_
   clear h5
   try simp only [Act.put,sA,sB,sC]
   have HO5:=zH ho5
   have HG5:=zH hg5
   clear ho5 hg5 hb5 hx5
   refine oneH (i:=13) (by kernel_rfl) ?_
   refine stepD (i:=13) rfl (by rfl) (fun K5 h5=>?_)
   go_simp
   refine h5.out _ _ hS ?_
   clear h5
   try simp only [Act.put,sA,sB,sC]
   refine wpAnyH_done (by kernel_rfl) ?_ _
   clear hS
   try go_at_K
   go_wp2_with fail
   go_ret
   exact ⟨_,rfl,by rw [HPV.out,HA.out.2.2.2.2.1];have h:=HO5.out;rw [List.append_assoc,List.append_assoc] at h;exact h,((((HG3.out.trans HG4.out).trans HG5.out).pre HB1.out).pre HB0.out)⟩
  ·have h0:=lone_none HD.out.1
   have hk0:1 <= v.kind∧v.kind <= 23:=by have h1:=HR.out.2.2.1.k0;have h2:=HR.out.2.2.1.k1;omega
   have hcd:=codeK_kind v.kind (smV v) hk0.1 hk0.2
   have HPV:=zH (show putV v = UInt8.ofNat (codeK v.kind (smV v)) :: datV (codeK v.kind (smV v)) v from by have h:=HD.out.2;simp only at h;rw [if_neg h24] at h;exact h)
   have HCD:=zH (And.intro hcd (codeK_lt v.kind (smV v)))
   have hcode:=fun W=>code_any v.kind (smV v) W
   obtain ⟨cd,hcde⟩:∃ cd,codeK v.kind (smV v) = cd:=⟨_,rfl⟩
   rw [hcde] at hcode
   have HCO:=zH hcode
   have HCE:=zH hcde
   clear h0 hk0 hcd hcode hcde
   by_cases hsp:v.kind = 21 ∨ v.kind = 22 ∨ v.kind = 23
   ·have hi:=hin HR.out.1 HR.out.2.1 w1 _ (HV.out.1.blw HW1.out)
    have HI:=zH hi
    have HSM:=zH (show spansB v.list.length (inn v).length = smV v from by unfold smV smallV;rw [if_pos (show IsSp v.kind from hsp)])
    clear hi
    have x1:w1.cell? ⟨x,1,none⟩ = some (.int .u64 v.num):=(cell_of_row _ _ 1 _ _ _ HX1.out).trans rfl
    have x2:w1.cell? ⟨x,2,none⟩ = some (.string v.text):=(cell_of_row _ _ 2 _ _ _ HX1.out).trans rfl
    have x3:w1.cell? ⟨x,3,none⟩ = some (.slice p N cs):=(cell_of_row _ _ 3 _ _ _ HX1.out).trans rfl
    have x4:w1.cell? ⟨x,4,none⟩ = some (.int .i64 v.elem):=(cell_of_row _ _ 4 _ _ _ HX1.out).trans rfl
    have HSP:=zH hsp
    have n24:(v.kind == 24) = false:=by simp [h24]
    have HN24:=zH h24
    have hgo:((v.kind == 21) = true) ∨ ((v.kind == 21) = false∧(v.kind == 22) = true) ∨ ((v.kind == 21) = false∧(v.kind == 22) = false∧(v.kind == 23) = true):=by
     rcases hsp with e|e|e
     ·exact .inl (by simp [e])
     ·exact .inr (.inl ⟨by simp [e],by simp [e]⟩)
     ·exact .inr (.inr ⟨by simp [e],by simp [e],by simp [e]⟩)
    clear hsp h24
    rcases hgo with e1|⟨e1,e2⟩|⟨e1,e2,e3⟩
    all_goals
     go_wp2_with fail
     refine HI.out.mono ?_
     clear x0 x1 x2 x3 x4
     rintro e w2 ⟨bh,rfl,hbo,hb2⟩
     have HW2:=zH (HW1.out.trans (hb2.mono HW1.out.size))
     have HX2:=zH ((hb2.block x (gl HX1.out)).trans HX1.out)
     have HO2:=zH (HO1.out.of_below hb2)
     have HB2:=zH hb2
     have hap:bh.ownBlock = none ∨ bh.ownBlock ≠ out.ownBlock:=by
      cases hq:bh.ownBlock with
      | none=>exact .inl rfl
      | some g =>
       refine .inr (fun q=>?_)
       have h1:=(hbo.row.lt g hq).1
       have h2:=(HO1.out.row.lt g q.symm).2
       omega
     obtain ⟨q,cc,hbs,_⟩:=hbo.bytes
     subst hbs
     obtain ⟨m,hm⟩:∃ m,(inn v).length = m:=⟨_,rfl⟩
     rw [hm] at hbo hap
     have HBO:=zH (And.intro hbo (And.intro hap hm))
     have hsps:=fun (W:World) (hW:Below wv.heap.size wv W)=>spans_any v W _ (HV.out.1.blw hW) q m cc (by have h1:=HR.out.2.2.2.2.1;have h2:=HR.out.2.1;omega)
     have ee:=HSM.out
     rw [hm] at ee
     rw [ee] at hsps
     have HSS:=zH hsps
     rw [hm]
     clear hbo hap hm hb2 hsps ee
     go_upto_region 11 with fail
     refine wp_region_heldN (fun V=>V.heap[x]? = some (.cells #[.int .i64 v.kind,.int .u64 v.num,.string v.text,.slice p N cs,.int .i64 v.elem] 25 (0,0))) 7 rfl (by kernel_rfl) ?_
     have hS:w2.drew.heap[x]? = some (.cells #[.int .i64 v.kind,.int .u64 v.num,.string v.text,.slice p N cs,.int .i64 v.elem] 25 (0,0)):=HX2.out
     refine tkI 0 (.pointer (some ⟨x,0,none⟩)) 43 rfl rfl (by kernel_rfl) (fun _ _ _=>id) (by rfl) (by rintro V h0;go_simp) hS ?_
     try simp only [Act.put,sA,sB,sC]
     refine tkI 1 (.int .i64 v.kind) 44 rfl rfl (by kernel_rfl) (fun _ _ _=>id) (by rfl) (by rintro V h0;have y0:=(cell_of_row V _ 0 _ _ _ h0).trans rfl;go_simp) hS ?_
     try simp only [Act.put,sA,sB,sC]
     refine tkI 2 (.agg #[.int .i64 v.kind,.int .u64 v.num,.string v.text,.slice p N cs,.int .i64 v.elem]) 45 rfl rfl (by kernel_rfl) (fun _ _ _=>id) (by rfl) (by rintro V h0;have y0:=(cell_of_row V _ 0 _ _ _ h0).trans rfl;have y1:=(cell_of_row V _ 1 _ _ _ h0).trans rfl;have y2:=(cell_of_row V _ 2 _ _ _ h0).trans rfl;have y3:=(cell_of_row V _ 3 _ _ _ h0).trans rfl;have y4:=(cell_of_row V _ 4 _ _ _ h0).trans rfl;go_simp) hS ?_
     try simp only [Act.put,sA,sB,sC]
     refine tkI 3 (.slice q m cc) 46 rfl rfl (by kernel_rfl) (fun _ _ _=>id) (by rfl) (by rintro V h0;go_simp) hS ?_
     try simp only [Act.put,sA,sB,sC]
     refine oneH (i:=4) (by kernel_rfl) ?_
     refine stepD (i:=4) rfl (by rfl) (fun K5 h5=>?_)
     go_simp
     (with_reducible refine (HSS.out _ (bdrew HW2.out)).mono ?_)
     rintro e w3 ⟨rfl,hb3⟩
     have hx3:=(hb3.block x (gl HX2.out)).trans HX2.out
     clear hS
     have hS:w3.heap[x]? = some (.cells #[.int .i64 v.kind,.int .u64 v.num,.string v.text,.slice p N cs,.int .i64 v.elem] 25 (0,0)):=hx3
     refine h5.out _ _ hS ?_
     clear h5
     try simp only [Act.put,sA,sB,sC]
     have HB3:=zH (show Below w2.heap.size w2 w3 from ⟨hb3.os,hb3.tape,hb3.output,hb3.size,hb3.block⟩)
     clear hb3 hx3
     refine oneH (i:=5) (by kernel_rfl) ?_
     refine stepD (i:=5) rfl (by rfl) (fun K5 h5=>?_)
     go_simp
     (with_reducible refine (HCO.out w3).mono ?_)
     rintro e w4 ⟨rfl,hb4⟩
     have hx4:=(hb4.block x (gl hS)).trans hS
     clear hS
     have hS:w4.heap[x]? = some (.cells #[.int .i64 v.kind,.int .u64 v.num,.string v.text,.slice p N cs,.int .i64 v.elem] 25 (0,0)):=hx4
     refine h5.out _ _ hS ?_
     clear h5
     try simp only [Act.put,sA,sB,sC]
     have HB4:=zH (HB3.out.trans (hb4.mono HB3.out.size))
     have HX4:=zH hx4
     clear hb4 hx4
     refine oneH (i:=6) (by kernel_rfl) ?_
     refine stepD (i:=6) rfl (by rfl) (fun K5 h5=>?_)
     go_simp
     refine h5.out _ _ hS ?_
     clear h5
     try simp only [Act.put,sA,sB,sC]
     refine wpAnyH_done (by kernel_rfl) ?_ _
     clear hS
     try go_at_K
     go_upto_region 12 with fail
     have HO4:=zH (HO2.out.of_below HB4.out)
     have HW4:=zH (HW2.out.trans (HB4.out.mono HW2.out.size))
     refine wp_region_heldN (fun V=>V.heap[x]? = some (.cells #[.int .i64 v.kind,.int .u64 v.num,.string v.text,.slice p N cs,.int .i64 v.elem] 25 (0,0))) 9 rfl (by kernel_rfl) ?_
     have hS:w4.drew.heap[x]? = some (.cells #[.int .i64 v.kind,.int .u64 v.num,.string v.text,.slice p N cs,.int .i64 v.elem] 25 (0,0)):=HX4.out
     refine tkI 0 (out) 49 rfl rfl (by kernel_rfl) (fun _ _ _=>id) (by rfl) (by rintro V h0;go_simp) hS ?_
     try simp only [Act.put,sA,sB,sC]
     refine tkI 1 (.int .u8 cd) 50 rfl rfl (by kernel_rfl) (fun _ _ _=>id) (by rfl) (by rintro V h0;go_simp) hS ?_
     try simp only [Act.put,sA,sB,sC]
     refine tkI 4 (.int .u8 cd) 53 rfl rfl (by kernel_rfl) (fun _ _ _=>id) (by rfl) (by rintro V h0;go_simp) hS ?_
     try simp only [Act.put,sA,sB,sC]
     refine tkI 5 (.agg #[.int .i64 v.kind,.int .u64 v.num,.string v.text,.slice p N cs,.int .i64 v.elem]) 54 rfl rfl (by kernel_rfl) (fun _ _ _=>id) (by rfl) (by rintro V h0;have y0:=(cell_of_row V _ 0 _ _ _ h0).trans rfl;have y1:=(cell_of_row V _ 1 _ _ _ h0).trans rfl;have y2:=(cell_of_row V _ 2 _ _ _ h0).trans rfl;have y3:=(cell_of_row V _ 3 _ _ _ h0).trans rfl;have y4:=(cell_of_row V _ 4 _ _ _ h0).trans rfl;go_simp) hS ?_
     try simp only [Act.put,sA,sB,sC]
     refine tkI 6 (.slice q m cc) 55 rfl rfl (by kernel_rfl) (fun _ _ _=>id) (by rfl) (by rintro V h0;go_simp) hS ?_
     try simp only [Act.put,sA,sB,sC]
     refine oneH (i:=2) (by kernel_rfl) ?_
     refine stepD (i:=2) rfl (by rfl) (fun K5 h5=>?_)
     go_simp
     have hS5:(w4.drew.alloc (.cells #[.int .u8 cd] 5)).heap[x]? = some (.cells #[.int .i64 v.kind,.int .u64 v.num,.string v.text,.slice p N cs,.int .i64 v.elem] 25 (0,0)):=(hao w4.drew _ (gl HX4.out)).trans HX4.out
     clear hS
     have hS:=hS5
     clear hS5
     refine h5.out _ _ hS ?_
     clear h5
     try simp only [Act.put,sA,sB,sC]
     refine oneH (i:=3) (by kernel_rfl) ?_
     refine stepD (i:=3) rfl (by rfl) (fun K5 h5=>?_)
     refine wp_append_bytesF (.tmp 49) (.tmp 51) 28 rfl wv.heap.size underlying28 info_u8 out l [UInt8.ofNat cd] _ 1 1 rfl rfl (HO4.out.of_below ((Below.refl _ _).drew.alloc (Nat.le_refl _) _)) (bytes_lit w4.drew cd (by have:=HCD.out.2;have:=HCE.out;omega)) (by have:=HL.out;omega) (by have:=HW4.out.size;simp;omega) ?_
     intro u5 w5 ho5 hg5
     have hg5':=Gw.pre (w:=w4) ((Below.refl _ _).drew.alloc (Nat.le_refl _) _) hg5
     have hx5:=(hg5.g.block x (gl hS) (fun e=>HNX.out e.symm)).trans hS
     clear hS
     have hS:w5.heap[x]? = some (.cells #[.int .i64 v.kind,.int .u64 v.num,.string v.text,.slice p N cs,.int .i64 v.elem] 25 (0,0)):=hx5
     refine h5.out _ _ hS ?_
     clear h5
     try simp only [Act.put,sA,sB,sC]
     have HO5:=zH ho5
     have HG5:=zH hg5'
     have HX5:=zH hx5
     have HW5:=zH (HW4.out.trans (hg5'.below HO4.out HW4.out.size))
     have hbo4:=HBO.out.1.of_below HB4.out
     have HBO5:=zH (And.intro (hg5'.own hbo4 HBO.out.2.1) (hg5'.apart hbo4 HBO.out.2.1))
     clear ho5 hg5 hg5' hx5 hbo4
     refine oneH (i:=7) (by kernel_rfl) ?_
     refine stepD (i:=7) rfl (by rfl) (fun K5 h5=>?_)
     go_simp
     have hd:=data_any (c:=cd) (by rw [← HCE.out];exact HCD.out.1.2) v w5 _ (HV.out.1.blw HW5.out) u5 (l ++ [UInt8.ofNat cd]) wv.heap.size HO5.out HW5.out.size (.slice q m cc) (inn v) w1.heap.size HBO5.out.1 HBO5.out.2 (by have h1:=HL.out;have h2:=HR.out;have h3:=h2.2.2.2.1;have h4:=h2.2.2.2.2.1;have h5:=h2.2.2.2.2.2;have h6:=h2.2.1;simp;omega)
     (with_reducible refine hd.mono ?_)
     clear hd
     rintro e w6 ⟨u6,rfl,ho6,hg6⟩
     have hx6:w6.heap[x]? = some (.cells #[.int .i64 v.kind,.int .u64 v.num,.string v.text,.slice p N cs,.int .i64 v.elem] 25 (0,0)):=(hg6.g.block x (gl HX5.out) (fun e=>by
      rcases HG5.out.o x e.symm with q|q
      ·exact HNX.out q
      ·have h1:=(gl HX4.out);omega)).trans HX5.out
     clear hS
     have hS:w6.heap[x]? = some (.cells #[.int .i64 v.kind,.int .u64 v.num,.string v.text,.slice p N cs,.int .i64 v.elem] 25 (0,0)):=hx6
     refine h5.out _ _ hS ?_
     clear h5
     try simp only [Act.put,sA,sB,sC]
     have HO6:=zH ho6
     have HG6:=zH hg6
     clear ho6 hg6 hx6
     refine oneH (i:=8) (by kernel_rfl) ?_
     refine stepD (i:=8) rfl (by rfl) (fun K5 h5=>?_)
     go_simp
     refine h5.out _ _ hS ?_
     clear h5
     try simp only [Act.put,sA,sB,sC]
     refine wpAnyH_done (by kernel_rfl) ?_ _
     clear hS
     try go_at_K
     go_wp2_with fail
     go_ret
     exact ⟨_,rfl,by rw [HPV.out,HCE.out];have h:=HO6.out;rw [List.append_assoc] at h;exact h,((((HG5.out.trans HG6.out).pre HB4.out).pre HB2.out).pre HB1.out).pre HB0.out⟩
   ·have x0':=x0
    have hnar:=fun (W:World) (hW:Below wv.heap.size wv W)=>narrow_any v W _ (HV.out.1.blw hW)
    have hsm:narrowV v = smV v:=by unfold smV smallV;rw [if_neg (show ¬ IsSp v.kind from hsp)]
    rw [hsm] at hnar
    have HNA:=zH hnar
    obtain ⟨n21,n22,n23⟩:¬ v.kind = 21∧¬ v.kind = 22∧¬ v.kind = 23:=⟨fun e=>hsp (.inl e),fun e=>hsp (.inr (.inl e)),fun e=>hsp (.inr (.inr e))⟩
    have HSP:=zH hsp
    clear hnar hsm x0' hsp
    go_upto_region 13 with fail
    refine wp_region_heldN (fun V=>V.heap[x]? = some (.cells #[.int .i64 v.kind,.int .u64 v.num,.string v.text,.slice p N cs,.int .i64 v.elem] 25 (0,0))) 6 rfl (by kernel_rfl) ?_
    have hS:w1.drew.heap[x]? = some (.cells #[.int .i64 v.kind,.int .u64 v.num,.string v.text,.slice p N cs,.int .i64 v.elem] 25 (0,0)):=HX1.out
    refine tkI 0 (.pointer (some ⟨x,0,none⟩)) 57 rfl rfl (by kernel_rfl) (fun _ _ _=>id) (by rfl) (by rintro V h0;go_simp) hS ?_
    try simp only [Act.put,sA,sB,sC]
    refine tkI 1 (.int .i64 v.kind) 58 rfl rfl (by kernel_rfl) (fun _ _ _=>id) (by rfl) (by rintro V h0;have y0:=(cell_of_row V _ 0 _ _ _ h0).trans rfl;go_simp) hS ?_
    try simp only [Act.put,sA,sB,sC]
    refine tkI 2 (.agg #[.int .i64 v.kind,.int .u64 v.num,.string v.text,.slice p N cs,.int .i64 v.elem]) 59 rfl rfl (by kernel_rfl) (fun _ _ _=>id) (by rfl) (by rintro V h0;have y0:=(cell_of_row V _ 0 _ _ _ h0).trans rfl;have y1:=(cell_of_row V _ 1 _ _ _ h0).trans rfl;have y2:=(cell_of_row V _ 2 _ _ _ h0).trans rfl;have y3:=(cell_of_row V _ 3 _ _ _ h0).trans rfl;have y4:=(cell_of_row V _ 4 _ _ _ h0).trans rfl;go_simp) hS ?_
    try simp only [Act.put,sA,sB,sC]
    refine oneH (i:=3) (by kernel_rfl) ?_
    refine stepD (i:=3) rfl (by rfl) (fun K5 h5=>?_)
    go_simp
    (with_reducible refine (HNA.out _ (bdrew HW1.out)).mono ?_)
    rintro e w3 ⟨rfl,hb3⟩
    have hx3:=(hb3.block x (gl HX1.out)).trans HX1.out
    clear hS
    have hS:w3.heap[x]? = some (.cells #[.int .i64 v.kind,.int .u64 v.num,.string v.text,.slice p N cs,.int .i64 v.elem] 25 (0,0)):=hx3
    refine h5.out _ _ hS ?_
    clear h5
    try simp only [Act.put,sA,sB,sC]
    have HB3:=zH (show Below w1.heap.size w1 w3 from ⟨hb3.os,hb3.tape,hb3.output,hb3.size,hb3.block⟩)
    clear hb3 hx3
    refine oneH (i:=4) (by kernel_rfl) ?_
    refine stepD (i:=4) rfl (by rfl) (fun K5 h5=>?_)
    go_simp
    (with_reducible refine (HCO.out w3).mono ?_)
    rintro e w4 ⟨rfl,hb4⟩
    have hx4:=(hb4.block x (gl hS)).trans hS
    clear hS
    have hS:w4.heap[x]? = some (.cells #[.int .i64 v.kind,.int .u64 v.num,.string v.text,.slice p N cs,.int .i64 v.elem] 25 (0,0)):=hx4
    refine h5.out _ _ hS ?_
    clear h5
    try simp only [Act.put,sA,sB,sC]
    have HB4:=zH (HB3.out.trans (hb4.mono HB3.out.size))
    have HX4:=zH hx4
    clear hb4 hx4
    refine oneH (i:=5) (by kernel_rfl) ?_
    refine stepD (i:=5) rfl (by rfl) (fun K5 h5=>?_)
    go_simp
    refine h5.out _ _ hS ?_
    clear h5
    try simp only [Act.put,sA,sB,sC]
    refine wpAnyH_done (by kernel_rfl) ?_ _
    clear hS
    try go_at_K
    go_upto_region 14 with fail
    have HO4:=zH (HO1.out.of_below HB4.out)
    have HW4:=zH (HW1.out.trans (HB4.out.mono HW1.out.size))
    clear x0 n21 n22 n23
    refine wp_region_heldN (fun V=>V.heap[x]? = some (.cells #[.int .i64 v.kind,.int .u64 v.num,.string v.text,.slice p N cs,.int .i64 v.elem] 25 (0,0))) 8 rfl (by kernel_rfl) ?_
    have hS:w4.drew.heap[x]? = some (.cells #[.int .i64 v.kind,.int .u64 v.num,.string v.text,.slice p N cs,.int .i64 v.elem] 25 (0,0)):=HX4.out
    refine tkI 0 (out) 62 rfl rfl (by kernel_rfl) (fun _ _ _=>id) (by rfl) (by rintro V h0;go_simp) hS ?_
    try simp only [Act.put,sA,sB,sC]
    refine tkI 1 (.int .u8 cd) 63 rfl rfl (by kernel_rfl) (fun _ _ _=>id) (by rfl) (by rintro V h0;go_simp) hS ?_
    try simp only [Act.put,sA,sB,sC]
    refine tkI 4 (.int .u8 cd) 66 rfl rfl (by kernel_rfl) (fun _ _ _=>id) (by rfl) (by rintro V h0;go_simp) hS ?_
    try simp only [Act.put,sA,sB,sC]
    refine tkI 5 (.agg #[.int .i64 v.kind,.int .u64 v.num,.string v.text,.slice p N cs,.int .i64 v.elem]) 67 rfl rfl (by kernel_rfl) (fun _ _ _=>id) (by rfl) (by rintro V h0;have y0:=(cell_of_row V _ 0 _ _ _ h0).trans rfl;have y1:=(cell_of_row V _ 1 _ _ _ h0).trans rfl;have y2:=(cell_of_row V _ 2 _ _ _ h0).trans rfl;have y3:=(cell_of_row V _ 3 _ _ _ h0).trans rfl;have y4:=(cell_of_row V _ 4 _ _ _ h0).trans rfl;go_simp) hS ?_
    try simp only [Act.put,sA,sB,sC]
    refine oneH (i:=2) (by kernel_rfl) ?_
    refine stepD (i:=2) rfl (by rfl) (fun K5 h5=>?_)
    go_simp
    have hS5:(w4.drew.alloc (.cells #[.int .u8 cd] 5)).heap[x]? = some (.cells #[.int .i64 v.kind,.int .u64 v.num,.string v.text,.slice p N cs,.int .i64 v.elem] 25 (0,0)):=(hao w4.drew _ (gl HX4.out)).trans HX4.out
    clear hS
    have hS:=hS5
    clear hS5
    refine h5.out _ _ hS ?_
    clear h5
    try simp only [Act.put,sA,sB,sC]
    refine oneH (i:=3) (by kernel_rfl) ?_
    refine stepD (i:=3) rfl (by rfl) (fun K5 h5=>?_)
    refine wp_append_bytesF (.tmp 62) (.tmp 64) 28 rfl wv.heap.size underlying28 info_u8 out l [UInt8.ofNat cd] _ 1 1 rfl rfl (HO4.out.of_below ((Below.refl _ _).drew.alloc (Nat.le_refl _) _)) (bytes_lit w4.drew cd (by have:=HCD.out.2;have:=HCE.out;omega)) (by have:=HL.out;omega) (by have:=HW4.out.size;simp;omega) ?_
    intro u5 w5 ho5 hg5
    have hg5':=Gw.pre (w:=w4) ((Below.refl _ _).drew.alloc (Nat.le_refl _) _) hg5
    have hx5:=(hg5.g.block x (gl hS) (fun e=>HNX.out e.symm)).trans hS
    clear hS
    have hS:w5.heap[x]? = some (.cells #[.int .i64 v.kind,.int .u64 v.num,.string v.text,.slice p N cs,.int .i64 v.elem] 25 (0,0)):=hx5
    refine h5.out _ _ hS ?_
    clear h5
    try simp only [Act.put,sA,sB,sC]
    have HO5:=zH ho5
    have HG5:=zH hg5'
    have HX5:=zH hx5
    have HW5:=zH (HW4.out.trans (hg5'.below HO4.out HW4.out.size))
    clear ho5 hg5 hg5' hx5
    refine oneH (i:=6) (by kernel_rfl) ?_
    refine stepD (i:=6) rfl (by rfl) (fun K5 h5=>?_)
    go_simp
    have hd:=data_any (c:=cd) (by rw [← HCE.out];exact HCD.out.1.2) v w5 _ (HV.out.1.blw HW5.out) u5 (l ++ [UInt8.ofNat cd]) wv.heap.size HO5.out HW5.out.size (.slice none 0 0) [] 0 (OwnBytes.nil _ _ _) (.inl rfl) (by have h1:=HL.out;have h2:=HR.out;have h3:=h2.2.2.2.1;have h4:=h2.2.2.2.2.1;have h5:=h2.2.2.2.2.2;have h6:=h2.2.1;simp;omega)
    (with_reducible refine hd.mono ?_)
    clear hd
    rintro e w6 ⟨u6,rfl,ho6,hg6⟩
    have hx6:w6.heap[x]? = some (.cells #[.int .i64 v.kind,.int .u64 v.num,.string v.text,.slice p N cs,.int .i64 v.elem] 25 (0,0)):=(hg6.g.block x (gl HX5.out) (fun e=>by
     rcases HG5.out.o x e.symm with q|q
     ·exact HNX.out q
     ·have h1:=(gl HX4.out);omega)).trans HX5.out
    clear hS
    have hS:w6.heap[x]? = some (.cells #[.int .i64 v.kind,.int .u64 v.num,.string v.text,.slice p N cs,.int .i64 v.elem] 25 (0,0)):=hx6
    refine h5.out _ _ hS ?_
    clear h5
    try simp only [Act.put,sA,sB,sC]
    have HO6:=zH ho6
    have HG6:=zH hg6
    clear ho6 hg6 hx6
    refine oneH (i:=7) (by kernel_rfl) ?_
    refine stepD (i:=7) rfl (by rfl) (fun K5 h5=>?_)
    go_simp
    refine h5.out _ _ hS ?_
    clear h5
    try simp only [Act.put,sA,sB,sC]
    refine wpAnyH_done (by kernel_rfl) ?_ _
    clear hS
    try go_at_K
    go_wp2_with fail
    go_ret
    have hdd:datB cd v [] = datV cd v:=by
     unfold datV datB
     by_cases a:cd / 16 = 9
     ·rw [if_pos a,if_pos a]
     rw [if_neg a,if_neg a]
     by_cases a:cd / 16 = 10 ∨ cd / 16 = 11
     ·rw [if_pos a,if_pos a]
     rw [if_neg a,if_neg a]
     by_cases a:12 <= cd / 16
     ·exact absurd (span_kind (by rw [← HCE.out];exact HCD.out.1.2) a) (by rw [← HCE.out,HCD.out.1.1];exact HSP.out)
     rw [if_neg a,if_neg a]
    exact ⟨_,rfl,by rw [HPV.out,HCE.out,← hdd];have h:=HO6.out;rw [List.append_assoc] at h;exact h,(((HG5.out.trans HG6.out).pre HB4.out).pre HB1.out).pre HB0.out⟩
end Go.Proofs.YtnnnfhobbnjmfaaGreatDoor
