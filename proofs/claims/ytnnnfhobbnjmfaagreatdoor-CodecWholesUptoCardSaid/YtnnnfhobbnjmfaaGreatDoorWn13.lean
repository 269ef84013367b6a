/-
  Lemmas on the codec. Conditions: as each says.
-/
import Derived.Test.YtnnnfhobbnjmfaaGreatDoorWn11
import Derived.Test.YtnnnfhobbnjmfaaGreatDoorWn12
import Derived.Lib.ConvBytes
import Derived.Deep.QuietTactic
import Derived.BigQuiet
import Derived.Deep.RegionLaw
namespace Go.Proofs.YtnnnfhobbnjmfaaGreatDoor
open Go.RowKit Go.Lib
set_option linter.all false
set_option maxHeartbeats 40000000
set_option maxRecDepth 20000

attribute [local go_sem] Oper.semAt_some

theorem wp_append_textF {P:Program} {w:World} {o:Oper} {a:Act} {K:Act → World → Prop} {Q:Exit → Act → World → Prop}
  (s x:Operand) (t u:TypeId) (ho:o.op = .call { callee:=.builtin .append,args:=#[s,x],argTypes:=#[t,u] })
  (B:Nat) (ht:P.underlying t = some (.slice 5)) (hu:P.underlying u = some .string) (hinfo:(P.info? 5).map (fun i=>(i.zero,i.size,i.bytes)) = some (some (.int .u8 0),1,1))
  (v:Value) (l:List UInt8) (tx:ByteArray)
  (hs:a.eval s = v) (hx:a.eval x = .string tx) (hown:OwnBytes w B 5 v l)
  (hlen:l.length+tx.size ≤ 140737488355328) (hbase:B ≤ w.heap.size)
  (h:∀ v' w',OwnBytes w' B 5 v' (l ++ tx.data.toList) → Gw w w' v v' → K (a.put o.dst v') w'):Oper.wp P o a w K Q:=by
 obtain ⟨i,hi,hzz⟩:=Option.map_eq_some_iff.1 hinfo
 simp only [Prod.mk.injEq] at hzz
 obtain ⟨hz,hsz,hb⟩:=hzz
 obtain ⟨v',w',hr,h2,h3,h4⟩:=Lib.run_append_own_string (P:=P) w B t u o.type 5 i ht hu hi hz hsz hb v l.length (l.map byteV) hown.row tx (by unfold maxLen;omega) hlen hbase
 have hf:SameOrNew w v v':=by
  rcases hown.row.2 with ⟨rfl,hl0⟩|⟨g,cap,cur,rfl,hbg,hg,hnc,hcm,hcs,htake⟩
  ·by_cases hm:tx.size = 0
   ·exact .inl (by rw [h4.2 ⟨rfl,hm⟩])
   ·have hq:=run_append_nil_string (P:=P) w t u o.type 5 i (.int .u8 0) ht hu hi hz tx (by omega) (by omega) (by rw [hb];omega)
    rw [hr] at hq
    simp only [Result.ok.injEq] at hq
    exact .inr ⟨w.heap.size,by rw [hq.1];rfl,Nat.le_refl _⟩
  ·by_cases hroom:l.length+tx.size ≤ cap
   ·have hcs':cur.size = cap:=by simpa using hcs
    have hq:=Lib.run_append_room_string (P:=P) w t u o.type 5 i ht hu hi hsz g l.length cap cur hg tx hroom (by omega)
    rw [hr] at hq
    simp only [Result.ok.injEq] at hq
    exact .inl (by rw [hq.1];rfl)
   ·have holds:∀ j u,(l.map byteV)[j]? = some u → w.cell? ((⟨g,0,none⟩:Addr).add j) = some u:=hown.row.cells (g:=g) rfl
    have hq:=Lib.run_append_grow_string (P:=P) w t u o.type 5 i (.int .u8 0) ht hu hi hz ⟨g,0,none⟩ l.length cap (l.map byteV) (by rw [hsz];simp) holds tx (by omega) (by omega) (by rw [hb];exact growslice_fits (by omega) (by omega))
    rw [hr] at hq
    simp only [Result.ok.injEq] at hq
    exact .inr ⟨w.heap.size,by rw [hq.1];rfl,Nat.le_refl _⟩
 unfold Oper.wp execOp
 simp only [ho,resolve,invoke,builtin,Sem.run_bind,Sem.run_pure,Result.andThen_ok,List.map_toArray,List.map_cons,List.map_nil,hs,hx,hr]
 refine h v' w' ⟨?_⟩ (gw_of h3 hf)
 rw [List.length_append,List.map_append]
 exact h2

theorem mrg_rfixd_65 (v:V) (w:World) (s:Value) (h:VIn w v s):(Calls Tryz.prog 67 #[.int .i64 (65:Nat),.agg #[.int .i64 v.kind,.int .u64 v.num,.string v.text,s,.int .i64 v.elem]] w (MkB w w.heap.size [] (decide (v.num = 1)))) ∧
  (Calls Tryz.prog 67 #[.int .i64 (66:Nat),.agg #[.int .i64 v.kind,.int .u64 v.num,.string v.text,s,.int .i64 v.elem]] w (MkB w w.heap.size [] (decide (v.num = 0)))) ∧
  (Calls Tryz.prog 67 #[.int .i64 (67:Nat),.agg #[.int .i64 v.kind,.int .u64 v.num,.string v.text,s,.int .i64 v.elem]] w (MkB w w.heap.size [] (decide (v.num = 0)))) ∧
  (Calls Tryz.prog 67 #[.int .i64 (68:Nat),.agg #[.int .i64 v.kind,.int .u64 v.num,.string v.text,s,.int .i64 v.elem]] w (MkB w w.heap.size [] (decide (v.num = 0)))) ∧
  (Calls Tryz.prog 67 #[.int .i64 (69:Nat),.agg #[.int .i64 v.kind,.int .u64 v.num,.string v.text,s,.int .i64 v.elem]] w (MkB w w.heap.size [] (decide (v.list = [])))):=by
 refine ⟨?_,?_,?_,?_,?_⟩
 all_goals
  obtain ⟨p,cs,hs,h1,h2,h3⟩:=h.slice
  obtain ⟨N,hN⟩:∃ N,v.list.length = N:=⟨_,rfl⟩
  rw [hN] at hs h1 h3
  subst hs
  unfold maxLen at h2
 obtain ⟨D,hD⟩:∃ D,decide (v.num = 1) = D:=⟨_,rfl⟩
 rw [hD]
 have HD:=Lib.hid hD
 have HW:=Lib.hid (fun W=>rwidth_any 65 W (by decide) (by decide))
 rotate_left
 obtain ⟨D,hD⟩:∃ D,decide (v.num = 0) = D:=⟨_,rfl⟩
 rw [hD]
 have HD:=Lib.hid hD
 have HW:=Lib.hid (fun W=>rwidth_any 66 W (by decide) (by decide))
 rotate_left
 obtain ⟨D,hD⟩:∃ D,decide (v.num = 0) = D:=⟨_,rfl⟩
 rw [hD]
 have HD:=Lib.hid hD
 have HW:=Lib.hid (fun W=>rwidth_any 67 W (by decide) (by decide))
 rotate_left
 obtain ⟨D,hD⟩:∃ D,decide (v.num = 0) = D:=⟨_,rfl⟩
 rw [hD]
 have HD:=Lib.hid hD
 have HW:=Lib.hid (fun W=>rwidth_any 68 W (by decide) (by decide))
 rotate_left
 obtain ⟨D,hD⟩:∃ D,decide (v.list = []) = D:=⟨_,rfl⟩
 rw [hD]
 have hl:v.list = [] ↔ N = 0:=by rw [← hN];exact List.length_eq_zero_iff.symm
 simp only [hl] at hD
 clear hl
 have HD:=Lib.hid hD
 have HW:=Lib.hid (fun W=>rwidth_any 69 W (by decide) (by decide))
 rotate_left
 all_goals
  clear hD
  clear h1 h3 hN h
  go_enter Tryz.func67,Tryz.ntmps67
  go_upto_region 1 with fail
 obtain ⟨w0,x,hw,hx,HB0,HX,HOX,-,x1,-,-,-⟩:=bxV w v (.slice p N cs)
 rotate_left
 obtain ⟨w0,x,hw,hx,HB0,HX,HOX,-,x1,-,-,-⟩:=bxV w v (.slice p N cs)
 rotate_left
 obtain ⟨w0,x,hw,hx,HB0,HX,HOX,-,x1,-,-,-⟩:=bxV w v (.slice p N cs)
 rotate_left
 obtain ⟨w0,x,hw,hx,HB0,HX,HOX,-,x1,-,-,-⟩:=bxV w v (.slice p N cs)
 rotate_left
 obtain ⟨w0,x,hw,hx,HB0,HX,HOX,-,-,-,x3,-⟩:=bxV w v (.slice p N cs)
 rotate_left
 all_goals
  rw [hw,hx]
  clear hw hx
  go_wp2_with fail
  refine (HW.out _).mono ?_
  rintro e w1 ⟨rfl,rfl⟩
 focus
  go_upto_region 4 with fail
 rotate_left
 focus
  go_upto_region 8 with fail
 rotate_left
 focus
  go_upto_region 8 with fail
 rotate_left
 focus
  go_upto_region 8 with fail
 rotate_left
 focus
  go_upto_region 10 with fail
 rotate_left
 all_goals
  go_quiet (fail)
  have HQ:=Lib.hid (HB0.out.trans (show Below w.heap.size w0 (w0.drewN nq) from ⟨rfl,rfl,rfl,Nat.le_refl _,fun _ _=>rfl⟩))
  go_wp2_with fail
  go_ret2
  refine ⟨_,_,_,?_,⟨BytesIn.nil _,fun a e=>by cases e⟩,HQ.out⟩
  rw [← HD.out]
  first
   | rfl
   | exact congrArg (fun b=>Ending.returned (.tuple #[.slice none 0 0,.bool b])) (Bool.eq_iff_iff.2 (by simp))
def rfixd_65:=fun v w s h=>(mrg_rfixd_65 v w s h).1
def rfixd_66:=fun v w s h=>(mrg_rfixd_65 v w s h).2.1
def rfixd_67:=fun v w s h=>(mrg_rfixd_65 v w s h).2.2.1
def rfixd_68:=fun v w s h=>(mrg_rfixd_65 v w s h).2.2.2.1
def rfixd_69:=fun v w s h=>(mrg_rfixd_65 v w s h).2.2.2.2
theorem mrg_rfixd_148 (v:V) (w:World) (s:Value) (h:VIn w v s):(Calls Tryz.prog 67 #[.int .i64 (148:Nat),.agg #[.int .i64 v.kind,.int .u64 v.num,.string v.text,s,.int .i64 v.elem]] w (MkB w w.heap.size v.tb true)) ∧
  (Calls Tryz.prog 67 #[.int .i64 (152:Nat),.agg #[.int .i64 v.kind,.int .u64 v.num,.string v.text,s,.int .i64 v.elem]] w (MkB w w.heap.size v.tb true)):=by
 refine ⟨?_,?_⟩
 all_goals
  obtain ⟨p,cs,hs,h1,h2,h3⟩:=h.slice
  obtain ⟨N,hN⟩:∃ N,v.list.length = N:=⟨_,rfl⟩
  rw [hN] at hs h1 h3
  subst hs
  unfold maxLen at h2
 have HW:=Lib.hid (fun W=>rwidth_any 148 W (by decide) (by decide))
 rotate_left
 have HW:=Lib.hid (fun W=>rwidth_any 152 W (by decide) (by decide))
 rotate_left
 all_goals
  have htx:=h.wf.t
  clear h1 h3 hN h
  go_enter Tryz.func67,Tryz.ntmps67
  go_upto_region 1 with fail
  obtain ⟨w0,x,hw,hx,HB0,HX,HOX,-,-,x2,-,-⟩:=bxV w v (.slice p N cs)
  rw [hw,hx]
  clear hw hx
  have hc2:=Go.Lib.run_convert_string_bytes (P:=Tryz.prog) w0 9 28 5 v.text Tryz.underlying9 Tryz.underlying28 Tryz.underlying5
  have hbel:Below w0.heap.size w0 (bytesWorld w0 5 v.text):=by
   refine ⟨rfl,rfl,rfl,?_,fun k hk=>bytesWorld_at_old w0 _ _ k hk⟩
   rw [bytesWorld_size];omega
  have hbi:BytesIn (bytesWorld w0 5 v.text) (some ⟨w0.heap.size,0,none⟩) v.text.size (grownCap w0 v.text.size 0 5) v.tb:=by
   refine ⟨rfl,grownCap_ge w0 _ 0 _,grownCap_le_maxLen w0 _ 0 _ htx,fun _=>⟨_,0,rfl,by rw [bytesWorld_size];omega,fun i hi=>?_⟩⟩
   rw [Nat.zero_add]
   exact bytesWorld_cell w0 _ _ i hi
  have HBI:=Lib.hid (And.intro hbi (HB0.out.trans (hbel.mono HB0.out.size)))
  clear hbel hbi htx
  generalize bytesWorld w0 5 v.text = w1 at *
  go_wp2_with fail
  refine (HW.out _).mono ?_
  rintro e w2 ⟨rfl,rfl⟩
  go_wp2_with fail
  go_ret2
  refine ⟨_,_,_,?_,⟨HBI.out.1,fun a e=>by cases e;exact HB0.out.size⟩,HBI.out.2⟩
  rfl
def rfixd_148:=fun v w s h=>(mrg_rfixd_148 v w s h).1
def rfixd_152:=fun v w s h=>(mrg_rfixd_148 v w s h).2
theorem rfixd_num (c wd:Nat) (hk:0 ≤ kindC c) (h0:c ≠ 0) (hwd:widR c = (wd:Nat)) (h8:wd = 0 ∨ wd = 1 ∨ wd = 2 ∨ wd = 4 ∨ wd = 8) (n65:((c:Int) == 65) = false) (n66:((c:Int) == 66) = false) (n67:((c:Int) == 67) = false) (n68:((c:Int) == 68) = false) (n69:((c:Int) == 69) = false) (n148:((c:Int) == 148) = false) (n152:((c:Int) == 152) = false) (v:V) (w:World) (s:Value) (h:VIn w v s) (D:Bool) (hD:D = (decide (wd = 0) || fitN v wd)) (hz:wd = 0 → sgnK v.kind = false) :
  Calls Tryz.prog 67 #[.int .i64 (c:Nat),.agg #[.int .i64 v.kind,.int .u64 v.num,.string v.text,s,.int .i64 v.elem]] w (MkB w w.heap.size (putL v.num.toNat wd) D):=by
 obtain ⟨p,cs,hs,h1,h2,h3⟩:=h.slice
 obtain ⟨N,hN⟩:∃ N,v.list.length = N:=⟨_,rfl⟩
 rw [hN] at hs h1 h3
 subst hs
 unfold maxLen at h2
 have hnn:=num_toNat h.wf
 have hnu:=h.wf.n.2
 have hw:=fun W=>rwidth_any c W hk h0
 rw [hwd] at hw
 have HW:=Lib.hid hw
 have HS:=Lib.hid (fun W=>rsigned_kind v.kind W)
 have HH:=Lib.hid (And.intro h8 (And.intro hz (And.intro hD (And.intro hnn hnu))))
 have hp:=fun W=>rword_any W v.num.toNat wd (by omega) (by omega)
 rw [hnn] at hp
 have HP:=Lib.hid hp
 clear hk h0 hwd h8 hD hz hw hp hnn hnu
 clear h1 h3 hN h
 go_enter Tryz.func67,Tryz.ntmps67
 go_upto_region 1 with fail
 obtain ⟨w0,x,hw,hx,HB0,HX,HOX,x0,x1,-,-,-⟩:=bxV w v (.slice p N cs)
 rw [hw,hx]
 clear hw hx
 go_wp2_with fail
 refine (HW.out _).mono ?_
 rintro e w1 ⟨rfl,rfl⟩
 go_wp2_with fail
 refine (HP.out w0).mono ?_
 rintro e w1 ⟨u1,rfl,ho1,hb1⟩
 obtain ⟨p2,c2,hu2,hy2⟩:=ho1.bytes
 rw [putL_length] at hu2 hy2
 have HP2:=Lib.hid (show ∀ a,p2 = some a → w.heap.size ≤ a.block from fun a e=>by have h1:=(ho1.row.lt a.block (by rw [hu2,e];rfl)).1;have h2:=HB0.out.size;omega)
 subst hu2
 have HY:=Lib.hid hy2
 have HB1:=Lib.hid (HB0.out.trans (hb1.mono HB0.out.size))
 have y0:=bs_cellV hb1 x0
 have y1:=bs_cellV hb1 x1
 have hnb:=rnumber_any w1 p2 wd c2 _ hy2 (by have:=HH.out.1;omega)
 rw [beVal_put] at hnb
 obtain ⟨r,hr⟩:∃ r:Int,((v.num.toNat % 256 ^ wd:Nat):Int) = r:=⟨_,rfl⟩
 rw [hr] at hnb
 have HR:=Lib.hid hr
 have HN:=Lib.hid hnb
 clear ho1 hb1 hy2 x0 x1 hnb hr
 go_wp2_with fail
 refine HN.out.mono ?_
 rintro e w2 ⟨rfl,rfl⟩
 go_wp2_with fail
 refine (HS.out w1).mono ?_
 rintro e w2 ⟨rfl,rfl⟩
 obtain ⟨g,hg⟩:∃ g,sgnK v.kind = g:=⟨_,rfl⟩
 rw [hg]
 have HG:=Lib.hid hg
 clear hg
 cases g
 ·by_cases hz:wd = 0
  ·have e0:((wd:Int) == 0) = true:=by simp [hz]
   have HZ:=Lib.hid hz
   clear hz
   go_upto_region 18 with fail
   go_quiet (fail)
   have hq:=(show Below w1.heap.size w1 (w1.drewN nq) from ⟨rfl,rfl,rfl,Nat.le_refl _,fun _ _=>rfl⟩)
   have HQ:=Lib.hid (And.intro hq (HB1.out.trans (hq.mono HB1.out.size)))
   clear hq
   go_wp2_with fail
   go_ret2
   refine ⟨_,_,_,?_,⟨HY.out.below HQ.out.1,HP2.out⟩,HQ.out.2⟩
   rw [show D = true by rw [HH.out.2.2.1];simp [HZ.out]]
   rfl
  ·have e0:((wd:Int) == 0) = false:=by simp [hz]
   have HZ:=Lib.hid hz
   clear hz
   go_upto_region 18 with fail
   go_quiet (fail)
   have hq:=(show Below w1.heap.size w1 (w1.drewN nq) from ⟨rfl,rfl,rfl,Nat.le_refl _,fun _ _=>rfl⟩)
   have HQ:=Lib.hid (And.intro hq (HB1.out.trans (hq.mono HB1.out.size)))
   clear hq
   go_wp2_with fail
   go_ret2
   refine ⟨_,_,_,?_,⟨HY.out.below HQ.out.1,HP2.out⟩,HQ.out.2⟩
   rw [show D = (r == v.num) by rw [HH.out.2.2.1];unfold fitN;rw [if_neg (by rw [HG.out];decide),HR.out];exact Bool.eq_iff_iff.2 (by simp [HZ.out])]
   rfl
 have hz:¬ wd = 0:=fun q=>by have:=HH.out.2.1 q;rw [HG.out] at this;cases this
 have e0:((wd:Int) == 0) = false:=by simp [hz]
 have hs:=rsigned_any w1 p2 wd c2 _ HY.out (by have:=HH.out.1;omega)
 rw [beVal_put] at hs
 obtain ⟨r2,hr2⟩:∃ r:Int,sgnX wd (v.num.toNat % 256 ^ wd) = r:=⟨_,rfl⟩
 rw [hr2] at hs
 have HR2:=Lib.hid hr2
 have HSG:=Lib.hid hs
 have HZ:=Lib.hid hz
 clear hs hr2 hz
 go_wp2_with fail
 refine HSG.out.mono ?_
 rintro e w2 ⟨rfl,rfl⟩
 go_upto_region 18 with fail
 go_quiet (fail)
 have hq:=(show Below w1.heap.size w1 (w1.drewN nq) from ⟨rfl,rfl,rfl,Nat.le_refl _,fun _ _=>rfl⟩)
 have HQ:=Lib.hid (And.intro hq (HB1.out.trans (hq.mono HB1.out.size)))
 clear hq
 go_wp2_with fail
 go_ret2
 refine ⟨_,_,_,?_,⟨HY.out.below HQ.out.1,HP2.out⟩,HQ.out.2⟩
 rw [show D = (r2 == v.num) by rw [HH.out.2.2.1];unfold fitN;rw [if_pos HG.out,HR2.out];exact Bool.eq_iff_iff.2 (by simp [HZ.out])]
 rfl
theorem rdata_text (c wd:Nat) (hc:c = 160 ∨ c = 161 ∨ c = 163 ∨ c = 176 ∨ c = 177 ∨ c = 179) (hwc:wOf c = wd) (v:V) (w:World) (s:Value) (h:VIn w v s) (q:Option Addr) (m cc:Nat) (bl:List UInt8) (hb:BytesIn w q m cc bl) (hm:(m:Int) ≤ 1000000000000) (hlen:(v.text.size:Int)+v.list.length ≤ 1000000000000) (D:Bool) (hD:D = decide (wd = 4 ∨ v.text.size ≤ 255)) :
  Calls Tryz.prog 47 #[.int .i64 (c:Nat),.agg #[.int .i64 v.kind,.int .u64 v.num,.string v.text,s,.int .i64 v.elem],.slice q m cc] w (MkB w w.heap.size (putL v.text.size wd ++ v.tb) D):=by
 obtain ⟨p,cs,hs,h1,h2,h3⟩:=h.slice
 obtain ⟨N,hN⟩:∃ N,v.list.length = N:=⟨_,rfl⟩
 rw [hN] at hs h1 h3
 subst hs
 unfold maxLen at h2
 have hw:∀ W,_:=fun W=>rwide_any c W (by rcases hc with rfl|rfl|rfl|rfl|rfl|rfl <;> decide) (by rcases hc with rfl|rfl|rfl|rfl|rfl|rfl <;> decide)
 have hwd:wd = 1 ∨ wd = 4:=by unfold wOf at hwc;split at hwc <;> omega
 rw [hwc] at hw
 have HWD:=Lib.hid (And.intro hwd hD)
 obtain ⟨tz,htz⟩:∃ tz,v.text.size = tz:=⟨_,rfl⟩
 have htzI:(v.text.size:Int) ≤ 1000000000000:=by omega
 have hp:=fun W=>rword_any W v.text.size wd (by omega) (by omega)
 have HP:=Lib.hid hp
 have HW:=Lib.hid hw
 have HTZ:=Lib.hid htzI
 clear hwc hwd hD hp hw hb hm hlen h1 h3 hN h htz
 rcases hc with rfl|rfl|rfl|rfl|rfl|rfl
 all_goals
  go_enter Tryz.func47,Tryz.ntmps47
  go_upto_region 1 with fail
  obtain ⟨w0,x,hw,hx,HB0,HX,HOX,-,-,x2,-,-⟩:=bxV w v (.slice p N cs)
  rw [hw,hx]
  clear hw hx
  go_wp2_with fail
  refine (HW.out _).mono ?_
  rintro e w1 ⟨rfl,rfl⟩
  go_wp2_with fail
  refine (HP.out w0).mono ?_
  rintro e w1 ⟨u1,rfl,ho1,hb1⟩
  have HNX:=Lib.hid (show u1.ownBlock ≠ some x from fun e=>by have h1:=(ho1.row.lt _ e).1;have h2:=(gl HOX.out);omega)
  have ho2:=ho1.of_below (Below.refl w1.heap.size w1).drew
  have HO1:=Lib.hid (show OwnBytes w1.drew w.heap.size 5 u1 (putL v.text.size wd) from ⟨ownsRow_base ho2.row (fun i hi=>by have h1:=(ho2.row.lt i hi).1;have h2:=HB0.out.size;omega)⟩)
  have HB1:=Lib.hid (And.intro (HB0.out.trans (hb1.mono HB0.out.size)).drew (show w.heap.size ≤ w1.drew.heap.size from Nat.le_trans HB0.out.size hb1.size))
  have HY2:=Lib.hid (show w1.drew.cell? ⟨x,2,none⟩ = some (.string v.text) from bs_cellV hb1.drew x2)
  have y2:=bs_cellV hb1 x2
  clear ho1 hb1 x2 ho2
  by_cases h4:wd = 4
  ·have e4:((wd:Int) == 4) = true:=by simp [h4]
   have H4:=Lib.hid h4
   clear h4
   go_upto_region 10 with fail
   refine wp_region_heldN (fun V=>V.cell? ⟨x,2,none⟩ = some (.string v.text)) 14 rfl (by kernel_rfl) ?_
   have hS:=HY2.out
   refine tkI 0 (u1) 26 rfl rfl (by kernel_rfl) (fun _ _ _=>id) (by rfl) (by rintro V h2;go_simp) hS ?_
   try simp only [Act.put,sA,sB,sC]
   refine tkI 1 (.pointer (some ⟨x,2,none⟩)) 27 rfl rfl (by kernel_rfl) (fun _ _ _=>id) (by rfl) (by rintro V h2;go_simp) hS ?_
   try simp only [Act.put,sA,sB,sC]
   refine tkI 2 (.string v.text) 28 rfl rfl (by kernel_rfl) (fun _ _ _=>id) (by rfl) (by rintro V h2;go_simp) hS ?_
   try simp only [Act.put,sA,sB,sC]
   refine tkI 4 (.int .i64 wd) 30 rfl rfl (by kernel_rfl) (fun _ _ _=>id) (by rfl) (by rintro V h2;go_simp) hS ?_
   try simp only [Act.put,sA,sB,sC]
   refine tkI 5 (.bool true) 31 rfl rfl (by kernel_rfl) (fun _ _ _=>id) (by rfl) (by rintro V h2;go_simp) hS ?_
   try simp only [Act.put,sA,sB,sC]
   refine oneH (i:=3) (by kernel_rfl) ?_
   refine stepD (i:=3) rfl (by rfl) (fun K5 h5=>?_)
   refine wp_append_textF (.tmp 26) (.tmp 28) 28 9 rfl w.heap.size Tryz.underlying28 Tryz.underlying9 info_u8 u1 (putL v.text.size wd) v.text rfl rfl HO1.out (by rw [putL_length];have:=HWD.out.1;have:=HTZ.out;omega) HB1.out.2 ?_
   intro u w2 ho2 hg2
   have HF:=Lib.hid (And.intro ho2 (HB1.out.1.trans (hg2.below HO1.out HB1.out.2)))
   clear hS
   have hS:=hg2.cell HY2.out HNX.out
   obtain ⟨p2,n2,c2,hu2,hy2⟩:=HF.out.1.ex
   subst hu2
   have HZ2:=Lib.hid hy2
   clear ho2 hg2 hy2
   refine h5.out (Act.put _ (some 29) (.slice p2 n2 c2)) _ hS ?_
   clear h5
   try simp only [Act.put,sA,sB,sC]
   refine tkI 6 (.bool true) 32 rfl rfl (by kernel_rfl) (fun _ _ _=>id) (by rfl) (by rintro V h2;go_simp) hS ?_
   try simp only [Act.put,sA,sB,sC]
   refine tkD (i:=7) (v:=undef) (some 33) rfl rfl (by kernel_rfl) (fun _ _ _ h=>h) (Or.inr ⟨by rfl,rfl⟩) hS ?_
   try simp only [Act.put,sA,sB,sC]
   refine tkD (i:=8) (v:=undef) (some 34) rfl rfl (by kernel_rfl) (fun _ _ _ h=>h) (Or.inr ⟨by rfl,rfl⟩) hS ?_
   try simp only [Act.put,sA,sB,sC]
   refine tkD (i:=9) (v:=undef) (some 35) rfl rfl (by kernel_rfl) (fun _ _ _ h=>h) (Or.inr ⟨by rfl,rfl⟩) hS ?_
   try simp only [Act.put,sA,sB,sC]
   refine tkD (i:=10) (v:=undef) (some 36) rfl rfl (by kernel_rfl) (fun _ _ _ h=>h) (Or.inr ⟨by rfl,rfl⟩) hS ?_
   try simp only [Act.put,sA,sB,sC]
   refine tkI 11 (.bool true) 37 rfl rfl (by kernel_rfl) (fun _ _ _=>id) (by rfl) (by rintro V h2;go_simp) hS ?_
   try simp only [Act.put,sA,sB,sC]
   refine tkI 12 (.slice p2 n2 c2) 6 rfl rfl (by kernel_rfl) (fun _ _ _=>id) (by rfl) (by rintro V h2;go_simp) hS ?_
   try simp only [Act.put,sA,sB,sC]
   refine tkI 13 (.bool true) 7 rfl rfl (by kernel_rfl) (fun _ _ _=>id) (by rfl) (by rintro V h2;go_simp) hS ?_
   try simp only [Act.put,sA,sB,sC]
   refine wpAnyH_done (by kernel_rfl) ?_ _
   go_wp2_with fail
   go_ret2
   refine ⟨_,_,_,?_,HZ2.out,HF.out.2⟩
   rw [show D = true by rw [HWD.out.2];have:=H4.out;simp;omega]
   rfl
  ·have e4:((wd:Int) == 4) = false:=by simp;omega
   have H4:=Lib.hid h4
   clear h4
   by_cases h1:(v.text.size:Int) ≤ 255
   ·have hd1:decide ((v.text.size:Int) ≤ 255) = true:=by simp;omega
    go_upto_region 10 with fail
    refine wp_region_heldN (fun V=>V.cell? ⟨x,2,none⟩ = some (.string v.text)) 14 rfl (by kernel_rfl) ?_
    have hS:=HY2.out
    refine tkI 0 (u1) 26 rfl rfl (by kernel_rfl) (fun _ _ _=>id) (by rfl) (by rintro V h2;go_simp) hS ?_
    try simp only [Act.put,sA,sB,sC]
    refine tkI 1 (.pointer (some ⟨x,2,none⟩)) 27 rfl rfl (by kernel_rfl) (fun _ _ _=>id) (by rfl) (by rintro V h2;go_simp) hS ?_
    try simp only [Act.put,sA,sB,sC]
    refine tkI 2 (.string v.text) 28 rfl rfl (by kernel_rfl) (fun _ _ _=>id) (by rfl) (by rintro V h2;go_simp) hS ?_
    try simp only [Act.put,sA,sB,sC]
    refine tkI 4 (.int .i64 wd) 30 rfl rfl (by kernel_rfl) (fun _ _ _=>id) (by rfl) (by rintro V h2;go_simp) hS ?_
    try simp only [Act.put,sA,sB,sC]
    refine tkI 5 (.bool false) 31 rfl rfl (by kernel_rfl) (fun _ _ _=>id) (by rfl) (by rintro V h2;go_simp) hS ?_
    try simp only [Act.put,sA,sB,sC]
    refine oneH (i:=3) (by kernel_rfl) ?_
    refine stepD (i:=3) rfl (by rfl) (fun K5 h5=>?_)
    refine wp_append_textF (.tmp 26) (.tmp 28) 28 9 rfl w.heap.size Tryz.underlying28 Tryz.underlying9 info_u8 u1 (putL v.text.size wd) v.text rfl rfl HO1.out (by rw [putL_length];have:=HWD.out.1;have:=HTZ.out;omega) HB1.out.2 ?_
    intro u w2 ho2 hg2
    have HF:=Lib.hid (And.intro ho2 (HB1.out.1.trans (hg2.below HO1.out HB1.out.2)))
    clear hS
    have hS:=hg2.cell HY2.out HNX.out
    obtain ⟨p2,n2,c2,hu2,hy2⟩:=HF.out.1.ex
    subst hu2
    have HZ2:=Lib.hid hy2
    clear ho2 hg2 hy2
    refine h5.out (Act.put _ (some 29) (.slice p2 n2 c2)) _ hS ?_
    clear h5
    try simp only [Act.put,sA,sB,sC]
    refine tkI 6 (.bool false) 32 rfl rfl (by kernel_rfl) (fun _ _ _=>id) (by rfl) (by rintro V h2;go_simp) hS ?_
    try simp only [Act.put,sA,sB,sC]
    refine tkI 7 (.pointer (some ⟨x,2,none⟩)) 33 rfl rfl (by kernel_rfl) (fun _ _ _=>id) (by rfl) (by rintro V h2;go_simp) hS ?_
    try simp only [Act.put,sA,sB,sC]
    refine tkI 8 (.string v.text) 34 rfl rfl (by kernel_rfl) (fun _ _ _=>id) (by rfl) (by rintro V h2;go_simp) hS ?_
    try simp only [Act.put,sA,sB,sC]
    refine tkI 9 (.int .i64 v.text.size) 35 rfl rfl (by kernel_rfl) (fun _ _ _=>id) (by rfl) (by rintro V h2;go_simp) hS ?_
    try simp only [Act.put,sA,sB,sC]
    refine tkI 10 (.bool true) 36 rfl rfl (by kernel_rfl) (fun _ _ _=>id) (by rfl) (by rintro V h2;go_simp) hS ?_
    try simp only [Act.put,sA,sB,sC]
    refine tkI 11 (.bool true) 37 rfl rfl (by kernel_rfl) (fun _ _ _=>id) (by rfl) (by rintro V h2;go_simp) hS ?_
    try simp only [Act.put,sA,sB,sC]
    refine tkI 12 (.slice p2 n2 c2) 6 rfl rfl (by kernel_rfl) (fun _ _ _=>id) (by rfl) (by rintro V h2;go_simp) hS ?_
    try simp only [Act.put,sA,sB,sC]
    refine tkI 13 (.bool true) 7 rfl rfl (by kernel_rfl) (fun _ _ _=>id) (by rfl) (by rintro V h2;go_simp) hS ?_
    try simp only [Act.put,sA,sB,sC]
    refine wpAnyH_done (by kernel_rfl) ?_ _
    go_wp2_with fail
    go_ret2
    refine ⟨_,_,_,?_,HZ2.out,HF.out.2⟩
    rw [show D = true by rw [HWD.out.2];have:=H4.out;simp;omega]
    rfl
   ·have hd1:decide ((v.text.size:Int) ≤ 255) = false:=by simp;omega
    go_upto_region 10 with fail
    refine wp_region_heldN (fun V=>V.cell? ⟨x,2,none⟩ = some (.string v.text)) 14 rfl (by kernel_rfl) ?_
    have hS:=HY2.out
    refine tkI 0 (u1) 26 rfl rfl (by kernel_rfl) (fun _ _ _=>id) (by rfl) (by rintro V h2;go_simp) hS ?_
    try simp only [Act.put,sA,sB,sC]
    refine tkI 1 (.pointer (some ⟨x,2,none⟩)) 27 rfl rfl (by kernel_rfl) (fun _ _ _=>id) (by rfl) (by rintro V h2;go_simp) hS ?_
    try simp only [Act.put,sA,sB,sC]
    refine tkI 2 (.string v.text) 28 rfl rfl (by kernel_rfl) (fun _ _ _=>id) (by rfl) (by rintro V h2;go_simp) hS ?_
    try simp only [Act.put,sA,sB,sC]
    refine tkI 4 (.int .i64 wd) 30 rfl rfl (by kernel_rfl) (fun _ _ _=>id) (by rfl) (by rintro V h2;go_simp) hS ?_
    try simp only [Act.put,sA,sB,sC]
    refine tkI 5 (.bool false) 31 rfl rfl (by kernel_rfl) (fun _ _ _=>id) (by rfl) (by rintro V h2;go_simp) hS ?_
    try simp only [Act.put,sA,sB,sC]
    refine oneH (i:=3) (by kernel_rfl) ?_
    refine stepD (i:=3) rfl (by rfl) (fun K5 h5=>?_)
    refine wp_append_textF (.tmp 26) (.tmp 28) 28 9 rfl w.heap.size Tryz.underlying28 Tryz.underlying9 info_u8 u1 (putL v.text.size wd) v.text rfl rfl HO1.out (by rw [putL_length];have:=HWD.out.1;have:=HTZ.out;omega) HB1.out.2 ?_
    intro u w2 ho2 hg2
    have HF:=Lib.hid (And.intro ho2 (HB1.out.1.trans (hg2.below HO1.out HB1.out.2)))
    clear hS
    have hS:=hg2.cell HY2.out HNX.out
    obtain ⟨p2,n2,c2,hu2,hy2⟩:=HF.out.1.ex
    subst hu2
    have HZ2:=Lib.hid hy2
    clear ho2 hg2 hy2
    refine h5.out (Act.put _ (some 29) (.slice p2 n2 c2)) _ hS ?_
    clear h5
    try simp only [Act.put,sA,sB,sC]
    refine tkI 6 (.bool false) 32 rfl rfl (by kernel_rfl) (fun _ _ _=>id) (by rfl) (by rintro V h2;go_simp) hS ?_
    try simp only [Act.put,sA,sB,sC]
    refine tkI 7 (.pointer (some ⟨x,2,none⟩)) 33 rfl rfl (by kernel_rfl) (fun _ _ _=>id) (by rfl) (by rintro V h2;go_simp) hS ?_
    try simp only [Act.put,sA,sB,sC]
    refine tkI 8 (.string v.text) 34 rfl rfl (by kernel_rfl) (fun _ _ _=>id) (by rfl) (by rintro V h2;go_simp) hS ?_
    try simp only [Act.put,sA,sB,sC]
    refine tkI 9 (.int .i64 v.text.size) 35 rfl rfl (by kernel_rfl) (fun _ _ _=>id) (by rfl) (by rintro V h2;go_simp) hS ?_
    try simp only [Act.put,sA,sB,sC]
    refine tkI 10 (.bool false) 36 rfl rfl (by kernel_rfl) (fun _ _ _=>id) (by rfl) (by rintro V h2;go_simp) hS ?_
    try simp only [Act.put,sA,sB,sC]
    refine tkI 11 (.bool false) 37 rfl rfl (by kernel_rfl) (fun _ _ _=>id) (by rfl) (by rintro V h2;go_simp) hS ?_
    try simp only [Act.put,sA,sB,sC]
    refine tkI 12 (.slice p2 n2 c2) 6 rfl rfl (by kernel_rfl) (fun _ _ _=>id) (by rfl) (by rintro V h2;go_simp) hS ?_
    try simp only [Act.put,sA,sB,sC]
    refine tkI 13 (.bool false) 7 rfl rfl (by kernel_rfl) (fun _ _ _=>id) (by rfl) (by rintro V h2;go_simp) hS ?_
    try simp only [Act.put,sA,sB,sC]
    refine wpAnyH_done (by kernel_rfl) ?_ _
    go_wp2_with fail
    go_ret2
    refine ⟨_,_,_,?_,HZ2.out,HF.out.2⟩
    rw [show D = false by rw [HWD.out.2];have:=H4.out;simp;omega]
    rfl
theorem rdata_span (c wd:Nat) (hc:c = 192 ∨ c = 193 ∨ c = 208 ∨ c = 209 ∨ c = 224 ∨ c = 240) (hwc:wOf c = wd) (v:V) (w:World) (s:Value) (h:VIn w v s) (q:Option Addr) (m cc:Nat) (bl:List UInt8) (hb:BytesIn w q m cc bl) (hm:(m:Int) ≤ 1000000000000) (hlen:(v.text.size:Int)+v.list.length ≤ 1000000000000) :
  Calls Tryz.prog 47 #[.int .i64 (c:Nat),.agg #[.int .i64 v.kind,.int .u64 v.num,.string v.text,s,.int .i64 v.elem],.slice q m cc] w (MkB w w.heap.size (putL (wd+m) wd ++ (putL v.list.length wd ++ bl)) (decide (wd = 4 ∨ (v.list.length ≤ 255∧wd+m ≤ 255)))):=by
 obtain ⟨D,hD⟩:∃ D,decide (wd = 4 ∨ (v.list.length ≤ 255∧wd+m ≤ 255)) = D:=⟨_,rfl⟩
 rw [hD]
 obtain ⟨p,cs,hs,h1,h2,h3⟩:=h.slice
 obtain ⟨N,hN⟩:∃ N,v.list.length = N:=⟨_,rfl⟩
 rw [hN] at hs h1 h3
 subst hs
 unfold maxLen at h2
 have hsp:=fun W (hW:BytesIn W q m cc bl)=>rspanned_any c N wd (by rcases hc with rfl|rfl|rfl|rfl|rfl|rfl <;> decide) (by rcases hc with rfl|rfl|rfl|rfl|rfl|rfl <;> decide) hwc (by omega) W q m cc bl hW hm
 rw [hN] at hD ⊢
 simp only [hD] at hsp
 have HSP:=Lib.hid hsp
 have HBI:=Lib.hid hb
 clear hwc hsp hb hlen h1 h3 hN h hD
 rcases hc with rfl|rfl|rfl|rfl|rfl|rfl
 all_goals
  go_enter Tryz.func47,Tryz.ntmps47
  go_upto_region 1 with fail
  obtain ⟨w0,x,hw,hx,HB0,HX,HOX,-,-,-,x3,-⟩:=bxV w v (.slice p N cs)
  rw [hw,hx]
  clear hw hx
  go_wp2_with fail
  refine (HSP.out w0 (HBI.out.below HB0.out)).mono ?_
  rintro e w1 ⟨p2,n2,c2,rfl,hy2,hb2⟩
  have HF:=Lib.hid (And.intro (And.intro hy2.1 (fun a e=>Nat.le_trans HB0.out.size (hy2.2 a e))) (HB0.out.trans (hb2.mono HB0.out.size)))
  clear hy2 hb2
  go_wp2_with fail
  go_ret2
  exact ⟨_,_,_,rfl,HF.out.1,HF.out.2⟩
theorem rdata_zero (v:V) (w:World) (s:Value) (h:VIn w v s) (q:Option Addr) (m cc:Nat) (bl:List UInt8) (hb:BytesIn w q m cc bl) (hm:(m:Int) ≤ 1000000000000) (hlen:(v.text.size:Int)+v.list.length ≤ 1000000000000) (B:Nat) (hq:∀ a,q = some a → B ≤ a.block) :
  Calls Tryz.prog 47 #[.int .i64 (0:Nat),.agg #[.int .i64 v.kind,.int .u64 v.num,.string v.text,s,.int .i64 v.elem],.slice q m cc] w (MkB w B bl true):=by
 obtain ⟨p,cs,hs,h1,h2,h3⟩:=h.slice
 obtain ⟨N,hN⟩:∃ N,v.list.length = N:=⟨_,rfl⟩
 rw [hN] at hs h1 h3
 subst hs
 unfold maxLen at h2
 have HBI:=Lib.hid (And.intro hb hq)
 clear hb hlen hm hq h1 h3 hN h
 go_enter Tryz.func47,Tryz.ntmps47
 go_upto_region 1 with fail
 obtain ⟨w0,x,hw,hx,HB0,HX,HOX,-,-,-,-,-⟩:=bxV w v (.slice p N cs)
 rw [hw,hx]
 clear hw hx
 go_wp2_with fail
 go_ret2
 exact ⟨_,_,_,rfl,⟨HBI.out.1.below HB0.out,HBI.out.2⟩,HB0.out⟩
theorem rdata_fixed (c:Nat) (n160:((c:Int) == 160) = false) (n161:((c:Int) == 161) = false) (n163:((c:Int) == 163) = false) (n176:((c:Int) == 176) = false) (n177:((c:Int) == 177) = false) (n179:((c:Int) == 179) = false) (n192:((c:Int) == 192) = false) (n193:((c:Int) == 193) = false) (n208:((c:Int) == 208) = false) (n209:((c:Int) == 209) = false) (n224:((c:Int) == 224) = false) (n240:((c:Int) == 240) = false) (n0:((c:Int) == 0) = false) (v:V) (w:World) (s:Value) (h:VIn w v s) (q:Option Addr) (m cc:Nat) (bl:List UInt8) (hb:BytesIn w q m cc bl) (hm:(m:Int) ≤ 1000000000000) (hlen:(v.text.size:Int)+v.list.length ≤ 1000000000000) (L:List UInt8) (D:Bool) (hf:∀ W,VIn W v s → Calls Tryz.prog 67 #[.int .i64 (c:Nat),.agg #[.int .i64 v.kind,.int .u64 v.num,.string v.text,s,.int .i64 v.elem]] W (MkB W W.heap.size L D)) :
  Calls Tryz.prog 47 #[.int .i64 (c:Nat),.agg #[.int .i64 v.kind,.int .u64 v.num,.string v.text,s,.int .i64 v.elem],.slice q m cc] w (MkB w w.heap.size L D):=by
 obtain ⟨p,cs,hs,h1,h2,h3⟩:=h.slice
 obtain ⟨N,hN⟩:∃ N,v.list.length = N:=⟨_,rfl⟩
 rw [hN] at hs h1 h3
 subst hs
 unfold maxLen at h2
 have HV:=Lib.hid (And.intro h hf)
 clear hb hlen hm h1 h3 hN h hf
 go_enter Tryz.func47,Tryz.ntmps47
 go_upto_region 1 with fail
 obtain ⟨w0,x,hw,hx,HB0,HX,HOX,x0,x1,x2,x3,x4⟩:=bxV w v (.slice p N cs)
 rw [hw,hx]
 clear hw hx
 go_wp2_with fail
 refine (HV.out.2 w0 (HV.out.1.blw HB0.out)).mono ?_
 rintro e w1 ⟨p2,n2,c2,rfl,hy2,hb2⟩
 have HF:=Lib.hid (And.intro (And.intro hy2.1 (fun a e=>Nat.le_trans HB0.out.size (hy2.2 a e))) (HB0.out.trans (hb2.mono HB0.out.size)))
 clear hy2 hb2
 go_wp2_with fail
 go_ret2
 exact ⟨_,_,_,rfl,HF.out.1,HF.out.2⟩
theorem MkB.low {w w':World} {B:Nat} {l:List UInt8} {b:Bool} {e:Ending} (h:MkB w w.heap.size l b e w') (hB:B ≤ w.heap.size):MkB w B l b e w':=by
 obtain ⟨p,n,c,h1,h2,h3⟩:=h
 exact ⟨p,n,c,h1,⟨h2.1,fun a e=>Nat.le_trans hB (h2.2 a e)⟩,h3⟩
theorem rdata_nz (c:Nat) (hk:0 ≤ kindC c) (h0:c ≠ 0) (v:V) (w:World) (s:Value) (h:VIn w v s) (hkv:kindC c = v.kind) (q:Option Addr) (m cc:Nat) (bl:List UInt8) (hb:BytesIn w q m cc bl) (hm:(m:Int) ≤ 1000000000000) (hlen:(v.text.size:Int)+v.list.length ≤ 1000000000000) :
  Calls Tryz.prog 47 #[.int .i64 (c:Nat),.agg #[.int .i64 v.kind,.int .u64 v.num,.string v.text,s,.int .i64 v.elem],.slice q m cc] w (MkB w w.heap.size (datX c v bl) (fitR c v m)):=by
 have hmem:=kindC_mem hk h0
 by_cases h12:12 ≤ c / 16
 ·rw [datX_dat (by omega),fitR_span h12,show datB c v bl = putL (wOf c+bl.length) (wOf c) ++ (putL v.list.length (wOf c) ++ bl) by unfold datB;rw [if_neg (by omega),if_neg (by omega),if_pos h12],hb.len]
  exact rdata_span c _ (by omega) rfl v w s h q m cc bl hb hm hlen
 by_cases h10:c / 16 = 10 ∨ c / 16 = 11
 ·rw [datX_dat (by omega),fitR_text h10,show datB c v bl = putL v.text.size (wOf c) ++ v.tb by unfold datB;rw [if_neg (by omega),if_pos h10]]
  exact rdata_text c _ (by omega) rfl v w s h q m cc bl hb hm hlen _ rfl
 refine rdata_fixed c (by simp;omega) (by simp;omega) (by simp;omega) (by simp;omega) (by simp;omega) (by simp;omega) (by simp;omega) (by simp;omega) (by simp;omega) (by simp;omega) (by simp;omega) (by simp;omega) (by simp;omega) v w s h q m cc bl hb hm hlen _ _ (fun W hW=>?_)
 by_cases h9:c / 16 = 9
 ·rw [datX_dat (by omega),fitR_16 h9,show datB c v bl = v.tb by unfold datB;rw [if_pos h9]]
  have hc:c = 148 ∨ c = 152:=by omega
  rcases hc with rfl|rfl
  ·exact rfixd_148 v W s hW
  ·exact rfixd_152 v W s hW
 by_cases h4:c / 16 = 4
 ·have hc:c = 64 ∨ c = 65 ∨ c = 66 ∨ c = 67 ∨ c = 68 ∨ c = 69:=by omega
  rcases hc with rfl|rfl|rfl|rfl|rfl|rfl
  ·exact rfixd_num 64 0 (by decide) (by decide) rfl (by omega) rfl rfl rfl rfl rfl rfl rfl v W s hW true (by simp) (fun _=>by rw [← hkv];rfl)
  ·exact rfixd_65 v W s hW
  ·exact rfixd_66 v W s hW
  ·exact rfixd_67 v W s hW
  ·exact rfixd_68 v W s hW
  ·exact rfixd_69 v W s hW
 rw [datX_dat (by omega),fitR_num (by omega) (by omega),datB_len0 c v bl h9 h10 h12]
 have hw:widC c = 1 ∨ widC c = 2 ∨ widC c = 4 ∨ widC c = 8:=by
  have:c / 16 = 5 ∨ c / 16 = 6 ∨ c / 16 = 7 ∨ c / 16 = 8:=by omega
  unfold widC
  rcases this with e|e|e|e <;> rw [e] <;> decide
 exact rfixd_num c (widC c) hk h0 (by unfold widR;rw [if_neg h4,if_pos (by omega)]) (by omega) (by simp;omega) (by simp;omega) (by simp;omega) (by simp;omega) (by simp;omega) (by simp;omega) (by simp;omega) v W s hW _ (by rw [show decide (widC c = 0) = false by simp;omega];rfl) (fun q=>by omega)
theorem fdata_any (c:Nat) (hk:0 ≤ kindC c) (v:V) (w:World) (s:Value) (h:VIn w v s) (hkv:kindC c = v.kind) (q:Option Addr) (m cc:Nat) (bl:List UInt8) (hb:BytesIn w q m cc bl) (hm:(m:Int) ≤ 1000000000000) (hlen:(v.text.size:Int)+v.list.length ≤ 1000000000000) (B:Nat) (hB:B ≤ w.heap.size) (hq:∀ a,q = some a → B ≤ a.block) :
  Calls Tryz.prog 47 #[.int .i64 (c:Nat),.agg #[.int .i64 v.kind,.int .u64 v.num,.string v.text,s,.int .i64 v.elem],.slice q m cc] w (MkB w B (datX c v bl) (fitR c v m)):=by
 by_cases h0:c = 0
 ·subst h0
  exact rdata_zero v w s h q m cc bl hb hm hlen B hq
 exact (rdata_nz c hk h0 v w s h hkv q m cc bl hb hm hlen).mono (fun e w' h=>MkB.low h hB)
end Go.Proofs.YtnnnfhobbnjmfaaGreatDoor

