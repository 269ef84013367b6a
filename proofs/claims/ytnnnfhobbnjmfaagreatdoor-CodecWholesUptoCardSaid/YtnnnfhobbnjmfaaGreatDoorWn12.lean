/-
  Lemmas on the codec. Conditions: as each says.
-/
import Derived.Test.YtnnnfhobbnjmfaaGreatDoorWn11
import Derived.Test.YtnnnfhobbnjmfaaGreatDoorWn08
import Derived.Test.YtnnnfhobbnjmfaaGreatDoorWn10
import Derived.Lib.AppendStr
import Derived.Test.YtnnnfhobbnjmfaaGreatDoorWn02
namespace Go.Proofs.YtnnnfhobbnjmfaaGreatDoor
open Go.RowKit Go.Proofs.Tryz
set_option linter.all false
set_option maxHeartbeats 40000000
set_option maxRecDepth 20000

attribute [local go_sem] Oper.semAt_some

theorem append_freshM {P:Program} {w w':World} {base t ty e:Nat} {i:TypeInfo} {z v v':Value} {bytes n:Nat} {xs ys:List Value} (ht:P.underlying t = some (.slice e)) (hi:P.info? e = some i) (hz:i.zero = some z)
  (hsize:i.size = 1) (hby:i.bytes = bytes) (hown:w.ownsRow base e 1 v n xs)
  (a:Addr) (m c:Nat) (hm:0 < m) (hl:ys.length = m) (hnews:∀ j u,ys[j]? = some u -> w.cell? (a.add j) = some u) (h1:∀ u ∈ ys,u.oneCell' = true) (h63:n+m <= maxLen) (hbytes:(n+m) * bytes <= 140737488355328)
  (hr:(Builtin.append_ #[t,t] ty #[v,.slice (some a) m c]).run P w = .ok v' w'):SameOrNew w v v':=by
 have hl1:ys.length = m * i.size:=by rw [hsize,hl,Nat.mul_one]
 have hm2:n+m <= 9223372036854775807:=by unfold maxLen at h63;omega
 rcases hown.2 with ⟨rfl,rfl⟩|⟨g,cap,cur,rfl,hbg,hg,hnc,hcm,hcs,htake⟩
 ·have hq:=run_append_nil (P:=P) w t ty e i z ht hi hz a m c ys hl1 hnews (by omega) (by omega) (by rw [hby];rw [Nat.zero_add] at hbytes;omega)
  rw [hr] at hq
  simp only [Result.ok.injEq] at hq
  exact .inr ⟨w.heap.size,by rw [hq.1];rfl,Nat.le_refl _⟩
 ·by_cases hroom:n+m <= cap
  ·have hq:=run_append_room (P:=P) w t ty e i ht hi g n cap cur hg a m c ys hl1 hnews h1 hroom (by rw [hsize,hcs,hl];omega)
   rw [hr] at hq
   simp only [Result.ok.injEq] at hq
   exact .inl (by rw [hq.1];rfl)
  ·have holds:∀ j u,xs[j]? = some u -> w.cell? ((⟨g,0,none⟩:Addr).add j) = some u:=hown.cells (g:=g) rfl
   have hq:=run_append_grow (P:=P) w t ty e i z ht hi hz ⟨g,0,none⟩ n cap xs (by rw [hsize];exact hown.1) holds a m c ys hl1 hnews (by omega) (by omega) (growslice_fits (by omega) (by rw [hby];exact hbytes))
   rw [hr] at hq
   simp only [Result.ok.injEq] at hq
   exact .inr ⟨w.heap.size,by rw [hq.1];rfl,Nat.le_refl _⟩

structure Gw (w w':World) (t t':Value):Prop where
 g:w.grownBy w' t.ownBlock
 o:∀ j,t'.ownBlock = some j -> t.ownBlock = some j ∨ w.heap.size <= j
section
variable {w w' w2 w1:World} {t t' t2:Value} {B:Nat} {u:Value} {l:List UInt8}
theorem Gw.refl (w:World) (t:Value):Gw w w t t:=⟨⟨rfl,rfl,rfl,Nat.le_refl _,fun _ _ _=>rfl⟩,fun j h=>.inl h⟩
theorem Gw.size (h:Gw w w' t t'):w.heap.size <= w'.heap.size:=h.g.size
theorem Gw.trans (h:Gw w w' t t') (k:Gw w' w2 t' t2):Gw w w2 t t2:=by
 refine ⟨⟨k.g.os.trans h.g.os,k.g.tape.trans h.g.tape,k.g.output.trans h.g.output,Nat.le_trans h.g.size k.g.size,fun j hj hn=>(k.g.block j (Nat.lt_of_lt_of_le hj h.g.size) (fun e=>?_)).trans (h.g.block j hj hn)⟩,fun j hj=>?_⟩
 ·rcases h.o j e.symm with q|q
  ·exact hn q.symm
  ·omega
 ·have:=h.g.size
  rcases k.o j hj with q|q
  ·exact h.o j q
  ·exact .inr (by omega)
theorem Gw.pre (hb:Below w.heap.size w w1) (h:Gw w1 w' t t'):Gw w w' t t' :=
 ⟨⟨h.g.os.trans hb.os,h.g.tape.trans hb.tape,h.g.output.trans hb.output,Nat.le_trans hb.size h.g.size,fun j hj hn=>(h.g.block j (Nat.lt_of_lt_of_le hj hb.size) hn).trans (hb.block j hj)⟩,fun j hj=>by
  have:=hb.size
  rcases h.o j hj with q|q
  ·exact .inl q
  ·exact .inr (by omega)⟩
theorem Gw.own (h:Gw w w' t t') (hu:OwnBytes w B 5 u l) (hap:u.ownBlock = none ∨ u.ownBlock ≠ t.ownBlock):OwnBytes w' B 5 u l:=hu.kept h.g hap
theorem Gw.apart (h:Gw w w' t t') (hu:OwnBytes w B 5 u l) (hap:u.ownBlock = none ∨ u.ownBlock ≠ t.ownBlock):u.ownBlock = none ∨ u.ownBlock ≠ t'.ownBlock:=by
 rcases hap with q|q
 ·exact .inl q
 ·cases hb:u.ownBlock with
  | none=>exact .inl rfl
  | some g =>
   refine .inr (fun e=>?_)
   have hlt:=(hu.row.lt g hb).2
   rcases h.o g (by rw [← e]) with q2|q2
   ·exact q (by rw [hb,q2])
   ·omega
theorem Gw.cell (h:Gw w w' t t') {a:Addr} {x:Value} (hc:w.cell? a = some x) (hne:t.ownBlock ≠ some a.block):w'.cell? a = some x:=h.g.cell hc (Ne.symm hne)
theorem Gw.below (h:Gw w w' t t') (ht:OwnBytes w B 5 t l) (hB:B <= w.heap.size):Below B w w':=(Below.refl _ _).grown h.g hB fun j hj=>(ht.row.lt j hj).1
theorem gw_of {w w':World} {t t':Value} (hg:w.grownBy w' t.ownBlock) (hs:SameOrNew w t t'):Gw w w' t t':=⟨hg,fun j hj=>by
 rcases hs with q|⟨g,q1,q2⟩
 ·exact .inl (by rw [← q];exact hj)
 ·rw [q1] at hj;cases hj;exact .inr q2⟩
end

theorem run_append_empty {P:Program} (w:World) (B t ty e:Nat) (i:TypeInfo) (size:Nat) (ht:P.underlying t = some (.slice e)) (hi:P.info? e = some i) (hsz:i.size = size)
  (v:Value) (n c:Nat) (xa:Option Addr) (xs:List Value) (hown:w.ownsRow B e size v n xs):(Builtin.append_ #[t,t] ty #[v,.slice xa 0 c]).run P w = .ok v w:=by
 cases xa with
 | none =>
  rcases hown.2 with ⟨rfl,rfl⟩|⟨g,cap,cur,rfl,hbg,hg,hnc,hcm,hcs,htake⟩
  ·simp [Builtin.append_,run_underlying ht,sizeOf,typeInfo,hi,Builtin.lenOf,Builtin.firstCells]
  ·simp [Builtin.append_,run_underlying ht,sizeOf,typeInfo,hi,Builtin.lenOf,Builtin.firstCells,loadCells,hnc,storeCells]
 | some a =>
  rcases hown.2 with ⟨rfl,rfl⟩|⟨g,cap,cur,rfl,hbg,hg,hnc,hcm,hcs,htake⟩
  ·simp [Builtin.append_,run_underlying ht,sizeOf,typeInfo,hi,Builtin.lenOf,Builtin.firstCells,loadCells,loadCellsFrom]
  ·simp [Builtin.append_,run_underlying ht,sizeOf,typeInfo,hi,Builtin.lenOf,Builtin.firstCells,loadCells,loadCellsFrom,hnc,storeCells]
theorem wp_append_bytesF {P:Program} {w:World} {o:Oper} {a:Act} {K:Act -> World -> Prop} {Q:Exit -> Act -> World -> Prop}
  (s x:Operand) (t:TypeId) (ho:o.op = .call { callee:=.builtin .append,args:=#[s,x],argTypes:=#[t,t] })
  (B:Nat) (ht:P.underlying t = some (.slice 5)) (hinfo:(P.info? 5).map (fun i=>(i.zero,i.size,i.bytes)) = some (some (.int .u8 0),1,1))
  (v:Value) (l r:List UInt8) (xa:Option Addr) (n c:Nat)
  (hs:a.eval s = v) (hx:a.eval x = .slice xa n c) (hown:OwnBytes w B 5 v l) (hr:BytesIn w xa n c r)
  (hlen:l.length+n <= 140737488355328) (hbase:B <= w.heap.size)
  (h:∀ v' w',OwnBytes w' B 5 v' (l ++ r) -> Gw w w' v v' -> K (a.put o.dst v') w'):Oper.wp P o a w K Q:=by
 obtain ⟨i,hi,hzz⟩:=Option.map_eq_some_iff.1 hinfo
 simp only [Prod.mk.injEq] at hzz
 obtain ⟨hz,hsz,hb⟩:=hzz
 have hrl:=hr.len
 rcases Nat.eq_zero_or_pos n with h0|hn
 ·subst h0
  have h2:=run_append_empty (P:=P) w B t o.type 5 i 1 ht hi hsz v l.length c xa _ hown.row
  unfold Oper.wp execOp
  simp only [ho,resolve,invoke,builtin,Sem.run_bind,Sem.run_pure,Result.andThen_ok,List.map_toArray,List.map_cons,List.map_nil,hs,hx,h2]
  obtain rfl:r = []:=List.eq_nil_of_length_eq_zero hrl
  exact h v w (by rw [List.append_nil];exact hown) (Gw.refl w v)
 obtain ⟨b,o',rfl,_,hc⟩:=hr.at_ (by have:=hr.le;omega)
 have hnews:∀ j u,(r.map byteV)[j]? = some u -> w.cell? ((⟨b,o',none⟩:Addr).add j) = some u:=by
  intro j u hj
  have hjl:j < n:=by
   have:=(List.getElem?_eq_some_iff.1 hj).1
   rw [List.length_map,hrl] at this
   exact this
  have hadd:(⟨b,o',none⟩:Addr).add j = ⟨b,o'+j,none⟩:=by unfold Addr.add;split <;> simp_all
  rw [hadd,hc j hjl,← hj,List.getElem?_map,List.getD_eq_getElem?_getD,List.getElem?_eq_getElem (by omega)]
  simp [byteV]
 have h1:∀ u ∈ r.map byteV,u.oneCell' = true:=by
  intro u hu
  obtain ⟨x,_,rfl⟩:=List.mem_map.1 hu
  rfl
 obtain ⟨v',w',h2,h3,h4,_⟩:=run_append_own (P:=P) w B t o.type 5 i (.int .u8 0) 1 1 ht hi hz hsz hb rfl (by decide) v l.length (l.map byteV) hown.row ⟨b,o',none⟩ n c (r.map byteV) (by rw [List.length_map,hrl,Nat.mul_one]) hnews h1 (by unfold maxLen;omega) (by omega) hbase
 have hf:=append_freshM (P:=P) ht hi hz hsz hb hown.row ⟨b,o',none⟩ n c hn (by rw [List.length_map,hrl]) hnews h1 (by unfold maxLen;omega) (by omega) h2
 unfold Oper.wp execOp
 simp only [ho,resolve,invoke,builtin,Sem.run_bind,Sem.run_pure,Result.andThen_ok,List.map_toArray,List.map_cons,List.map_nil,hs,hx,h2]
 refine h v' w' ⟨?_⟩ (gw_of h4 hf)
 rw [List.length_append,hrl,List.map_append]
 exact h3
theorem wpList_append_bytesF {P:Program} {w:World} {ops:Array Oper} {rest:List Oper} {o:Oper} {a:Act} {Q:Exit -> Act -> World -> Prop} (hgd:o.guard = none)
  (s x:Operand) (t:TypeId) (ho:o.op = .call { callee:=.builtin .append,args:=#[s,x],argTypes:=#[t,t] })
  (B:Nat) (ht:P.underlying t = some (.slice 5)) (hinfo:(P.info? 5).map (fun i=>(i.zero,i.size,i.bytes)) = some (some (.int .u8 0),1,1))
  (v:Value) (l r:List UInt8) (xa:Option Addr) (n c:Nat)
  (hs:a.eval s = v) (hx:a.eval x = .slice xa n c) (hown:OwnBytes w B 5 v l) (hr:BytesIn w xa n c r)
  (hlen:l.length+n <= 140737488355328) (hbase:B <= w.heap.size)
  (h:∀ v' w',OwnBytes w' B 5 v' (l ++ r) -> Gw w w' v v' -> wpList P ops Q rest (a.put o.dst v') w'):wpList P ops Q (o :: rest) a w :=
 wpList_plain hgd fun K hK=>wp_append_bytesF s x t ho B ht hinfo v l r xa n c hs hx hown hr hlen hbase (fun v' w' h1 h2=>hK _ _ (h v' w' h1 h2))
theorem wpList_append_text {P:Program} {w:World} {ops:Array Oper} {rest:List Oper} {o:Oper} {a:Act} {Q:Exit -> Act -> World -> Prop} (hgd:o.guard = none)
  (s x:Operand) (t u:TypeId) (ho:o.op = .call { callee:=.builtin .append,args:=#[s,x],argTypes:=#[t,u] })
  (B:Nat) (ht:P.underlying t = some (.slice 5)) (hu:P.underlying u = some .string) (hinfo:(P.info? 5).map (fun i=>(i.zero,i.size,i.bytes)) = some (some (.int .u8 0),1,1))
  (v:Value) (l:List UInt8) (tx:ByteArray)
  (hs:a.eval s = v) (hx:a.eval x = .string tx) (hown:OwnBytes w B 5 v l)
  (hlen:l.length+tx.size <= 140737488355328) (hbase:B <= w.heap.size)
  (h:∀ v' w',OwnBytes w' B 5 v' (l ++ tx.data.toList) -> Gw w w' v v' -> wpList P ops Q rest (a.put o.dst v') w'):wpList P ops Q (o :: rest) a w:=by
 obtain ⟨i,hi,hzz⟩:=Option.map_eq_some_iff.1 hinfo
 simp only [Prod.mk.injEq] at hzz
 obtain ⟨hz,hsz,hb⟩:=hzz
 refine wpList_plain hgd fun K hK=>?_
 obtain ⟨v',w',hr,h2,h3,h4⟩:=Lib.run_append_own_string (P:=P) w B t u o.type 5 i ht hu hi hz hsz hb v l.length (l.map byteV) hown.row tx (by unfold maxLen;omega) hlen hbase
 have hf:SameOrNew w v v':=by
  rcases hown.row.2 with ⟨rfl,hl0⟩|⟨g,cap,cur,rfl,hbg,hg,hnc,hcm,hcs,htake⟩
  ·by_cases hm:tx.size = 0
   ·exact .inl (by rw [h4.2 ⟨rfl,hm⟩])
   ·have hq:=run_append_nil_string (P:=P) w t u o.type 5 i (.int .u8 0) ht hu hi hz tx (by omega) (by omega) (by rw [hb];omega)
    rw [hr] at hq
    simp only [Result.ok.injEq] at hq
    exact .inr ⟨w.heap.size,by rw [hq.1];rfl,Nat.le_refl _⟩
  ·by_cases hroom:l.length+tx.size <= cap
   ·have hcs':cur.size = cap:=by simpa using hcs
    have hq:=Lib.run_append_room_string (P:=P) w t u o.type 5 i ht hu hi hsz g l.length cap cur hg tx hroom (by omega)
    rw [hr] at hq
    simp only [Result.ok.injEq] at hq
    exact .inl (by rw [hq.1];rfl)
   ·have holds:∀ j u,(l.map byteV)[j]? = some u -> w.cell? ((⟨g,0,none⟩:Addr).add j) = some u:=hown.row.cells (g:=g) rfl
    have hq:=Lib.run_append_grow_string (P:=P) w t u o.type 5 i (.int .u8 0) ht hu hi hz ⟨g,0,none⟩ l.length cap (l.map byteV) (by rw [hsz];simp) holds tx (by omega) (by omega) (by rw [hb];exact growslice_fits (by omega) (by omega))
    rw [hr] at hq
    simp only [Result.ok.injEq] at hq
    exact .inr ⟨w.heap.size,by rw [hq.1];rfl,Nat.le_refl _⟩
 unfold Oper.wp execOp
 simp only [ho,resolve,invoke,builtin,Sem.run_bind,Sem.run_pure,Result.andThen_ok,List.map_toArray,List.map_cons,List.map_nil,hs,hx,hr]
 refine hK _ _ (h v' w' ⟨?_⟩ (gw_of h3 hf))
 rw [List.length_append,List.map_append]
 exact h2

theorem OwnBytes.sl {w:World} {B T n c:Nat} {p:Option Addr} {l:List UInt8} (h:OwnBytes w B T (.slice p n c) l):l.length = n∧BytesIn w p n c l:=by
 obtain ⟨a,c',e,hb⟩:=h.bytes
 simp only [Value.slice.injEq] at e
 obtain ⟨rfl,rfl,rfl⟩:=e
 exact ⟨rfl,hb⟩
def DataTo (w:World) (B:Nat) (out:Value) (l:List UInt8) (e:Ending) (w':World):Prop:=∃ u,e = .returned u∧OwnBytes w' B 5 u l∧Gw w w' out u
theorem mrg_data_94 (v:V) (w:World) (s:Value) (h:VIn w v s) (out:Value) (l:List UInt8) (B:Nat) (ho:OwnBytes w B 5 out l) (hB:B <= w.heap.size) (bh:Value) (bl:List UInt8) (B2:Nat) (hb:OwnBytes w B2 5 bh bl) (hap:bh.ownBlock = none ∨ bh.ownBlock ≠ out.ownBlock) (hlen:l.length+v.text.size+bl.length+v.list.length <= 1000000000000):(Calls prog 54 #[out,.int .u8 148,.agg #[.int .i64 v.kind,.int .u64 v.num,.string v.text,s,.int .i64 v.elem],bh] w (DataTo w B out (l ++ v.tb))) ∧
  (Calls prog 54 #[out,.int .u8 152,.agg #[.int .i64 v.kind,.int .u64 v.num,.string v.text,s,.int .i64 v.elem],bh] w (DataTo w B out (l ++ v.tb))):=by
 refine ⟨?_,?_⟩
 all_goals
  obtain ⟨p,cs,hs,h1,h2,h3⟩:=h.slice
  obtain ⟨N,hN⟩:∃ N,v.list.length = N:=⟨_,rfl⟩
  rw [hN] at hs h1 h3 hlen
  subst hs
  obtain ⟨q,cc,hbh,hbi⟩:=hb.bytes
  subst hbh
  obtain ⟨m,hm⟩:∃ m,bl.length = m:=⟨_,rfl⟩
  rw [hm] at hbi hb hap hlen ⊢
  obtain ⟨L,hL⟩:∃ L,l.length = L:=⟨_,rfl⟩
  rw [hL] at hlen
  obtain ⟨tz,htz⟩:∃ tz,v.text.size = tz:=⟨_,rfl⟩
  rw [htz] at hlen
  have hlenI:(L:Int)+tz+m+N <= 1000000000000:=by omega
  have HO:=zH (And.intro ho (And.intro hB (And.intro hb (And.intro hap (And.intro hbi (And.intro hL (And.intro htz (And.intro hm hN))))))))
  clear h h1 h2 h3 hN ho hB hb hap hbi hm hL hlen
  go_enter func54,ntmps54
  go_upto_region 1 with fail
  obtain ⟨w0,x,hw,hx,HB0,HX,HOX,-,-,x2,-,-⟩:=bxV w v (.slice p N cs)
  rw [hw,hx]
  clear hw hx
  have HNX:=zH (show out.ownBlock ≠ some x from fun e=>by have h1:=(HO.out.1.row.lt _ e).2;have h2:=HX.out;omega)
  have HO0:=zH (show OwnBytes w0 B 5 out l from HO.out.1.of_below HB0.out)
  have HBH:=zH (show OwnBytes w0 B2 5 (.slice q m cc) bl from HO.out.2.2.1.of_below HB0.out)
  have htzI:(v.text.size:Int) <= 1000000000000:=by rw [htz];omega
  have HTZ:=zH htz
  clear htz
  go_wp2_with (first
   | (at_builtin;refine wpList_append_text rfl (.tmp 30) (.tmp 32) 28 9 rfl B underlying28 underlying9 info_u8 out l v.text rfl rfl HO0.out (by rw [HO.out.2.2.2.2.2.1,HTZ.out];omega) (by have:=HB0.out.size;have:=HO.out.2.1;omega) ?_;intro u w2 ho2 hg2;have HO2:=zH ho2;have HG2:=zH hg2;clear ho2 hg2))
  go_ret
  exact ⟨_,rfl,HO2.out,HG2.out.pre HB0.out⟩
def data_94:=fun v w s h out l B ho hB bh bl B2 hb hap hlen=>(mrg_data_94 v w s h out l B ho hB bh bl B2 hb hap hlen).1
def data_98:=fun v w s h out l B ho hB bh bl B2 hb hap hlen=>(mrg_data_94 v w s h out l B ho hB bh bl B2 hb hap hlen).2
theorem mrg_data_a0 (v:V) (w:World) (s:Value) (h:VIn w v s) (out:Value) (l:List UInt8) (B:Nat) (ho:OwnBytes w B 5 out l) (hB:B <= w.heap.size) (bh:Value) (bl:List UInt8) (B2:Nat) (hb:OwnBytes w B2 5 bh bl) (hap:bh.ownBlock = none ∨ bh.ownBlock ≠ out.ownBlock) (hlen:l.length+v.text.size+bl.length+v.list.length <= 1000000000000):(Calls prog 54 #[out,.int .u8 160,.agg #[.int .i64 v.kind,.int .u64 v.num,.string v.text,s,.int .i64 v.elem],bh] w (DataTo w B out (l ++ (putL v.text.size 1 ++ v.tb)))) ∧
  (Calls prog 54 #[out,.int .u8 161,.agg #[.int .i64 v.kind,.int .u64 v.num,.string v.text,s,.int .i64 v.elem],bh] w (DataTo w B out (l ++ (putL v.text.size 1 ++ v.tb)))) ∧
  (Calls prog 54 #[out,.int .u8 163,.agg #[.int .i64 v.kind,.int .u64 v.num,.string v.text,s,.int .i64 v.elem],bh] w (DataTo w B out (l ++ (putL v.text.size 1 ++ v.tb)))):=by
 refine ⟨?_,?_,?_⟩
 all_goals
  obtain ⟨p,cs,hs,h1,h2,h3⟩:=h.slice
  obtain ⟨N,hN⟩:∃ N,v.list.length = N:=⟨_,rfl⟩
  rw [hN] at hs h1 h3 hlen
  subst hs
  obtain ⟨q,cc,hbh,hbi⟩:=hb.bytes
  subst hbh
  obtain ⟨m,hm⟩:∃ m,bl.length = m:=⟨_,rfl⟩
  rw [hm] at hbi hb hap hlen ⊢
  obtain ⟨L,hL⟩:∃ L,l.length = L:=⟨_,rfl⟩
  rw [hL] at hlen
  obtain ⟨tz,htz⟩:∃ tz,v.text.size = tz:=⟨_,rfl⟩
  rw [htz] at hlen
  have hlenI:(L:Int)+tz+m+N <= 1000000000000:=by omega
  have HO:=zH (And.intro ho (And.intro hB (And.intro hb (And.intro hap (And.intro hbi (And.intro hL (And.intro htz (And.intro hm hN))))))))
  clear h h1 h2 h3 hN ho hB hb hap hbi hm hL hlen
  go_enter func54,ntmps54
  go_upto_region 1 with fail
  obtain ⟨w0,x,hw,hx,HB0,HX,HOX,-,-,x2,-,-⟩:=bxV w v (.slice p N cs)
  rw [hw,hx]
  clear hw hx
  have HNX:=zH (show out.ownBlock ≠ some x from fun e=>by have h1:=(HO.out.1.row.lt _ e).2;have h2:=HX.out;omega)
  have HO0:=zH (show OwnBytes w0 B 5 out l from HO.out.1.of_below HB0.out)
  have HBH:=zH (show OwnBytes w0 B2 5 (.slice q m cc) bl from HO.out.2.2.1.of_below HB0.out)
  have htzI:(v.text.size:Int) <= 1000000000000:=by rw [htz];omega
  have HTZ:=zH htz
  have HTI:=zH htzI
  clear htz
  have hp:=put_bytes (v.text.size) 1 w0 (by omega) (by omega) (by omega)
  have HP1:=zH hp
  clear hp
  go_wp2_with fail
  refine HP1.out.mono ?_
  rintro e w1 ⟨rfl,hb1,hy1⟩
  have HBW1:=zH hb1
  have HY1:=zH hy1
  have HZ1:=zH (show B <= w1.heap.size from by have h1:=HO.out.2.1;have h2:=HB0.out.size;have h3:=hb1.size;omega)
  clear hb1 hy1
  have HO1:=zH (HO0.out.of_below HBW1.out)
  have HX2:=zH (bs_cellV HBW1.out x2)
  clear x2
  go_wp2_with (first
   | (at_builtin;refine wpList_append_bytesF rfl (.tmp 34) (.tmp 40) 28 rfl B underlying28 info_u8 _ l (putL v.text.size 1) _ 1 1 rfl rfl HO1.out HY1.out (by rw [HO.out.2.2.2.2.2.1];omega) HZ1.out ?_;intro u2 w2 ho2 hg2;have HO2:=zH ho2;have HG2:=zH hg2;clear ho2 hg2;have x2:=Gw.cell HG2.out HX2.out HNX.out)
   | (at_builtin;refine wpList_append_text rfl (.tmp 42) (.tmp 44) 28 9 rfl B underlying28 underlying9 info_u8 _ _ v.text rfl rfl HO2.out (by rw [List.length_append,putL_length,HO.out.2.2.2.2.2.1];have:=HTI.out;omega) (by have:=HG2.out.size;have:=HZ1.out;omega) ?_;intro u3 w3 ho3 hg3;have HO3:=zH ho3;have HG3:=zH hg3;clear ho3 hg3))
  go_ret
  exact ⟨_,rfl,by have h:=HO3.out;rw [List.append_assoc] at h;exact h,((HG2.out.pre HBW1.out).pre HB0.out).trans HG3.out⟩
def data_a0:=fun v w s h out l B ho hB bh bl B2 hb hap hlen=>(mrg_data_a0 v w s h out l B ho hB bh bl B2 hb hap hlen).1
def data_a1:=fun v w s h out l B ho hB bh bl B2 hb hap hlen=>(mrg_data_a0 v w s h out l B ho hB bh bl B2 hb hap hlen).2.1
def data_a3:=fun v w s h out l B ho hB bh bl B2 hb hap hlen=>(mrg_data_a0 v w s h out l B ho hB bh bl B2 hb hap hlen).2.2
theorem mrg_data_b0 (v:V) (w:World) (s:Value) (h:VIn w v s) (out:Value) (l:List UInt8) (B:Nat) (ho:OwnBytes w B 5 out l) (hB:B <= w.heap.size) (bh:Value) (bl:List UInt8) (B2:Nat) (hb:OwnBytes w B2 5 bh bl) (hap:bh.ownBlock = none ∨ bh.ownBlock ≠ out.ownBlock) (hlen:l.length+v.text.size+bl.length+v.list.length <= 1000000000000):(Calls prog 54 #[out,.int .u8 176,.agg #[.int .i64 v.kind,.int .u64 v.num,.string v.text,s,.int .i64 v.elem],bh] w (DataTo w B out (l ++ (putL v.text.size 4 ++ v.tb)))) ∧
  (Calls prog 54 #[out,.int .u8 177,.agg #[.int .i64 v.kind,.int .u64 v.num,.string v.text,s,.int .i64 v.elem],bh] w (DataTo w B out (l ++ (putL v.text.size 4 ++ v.tb)))) ∧
  (Calls prog 54 #[out,.int .u8 179,.agg #[.int .i64 v.kind,.int .u64 v.num,.string v.text,s,.int .i64 v.elem],bh] w (DataTo w B out (l ++ (putL v.text.size 4 ++ v.tb)))):=by
 refine ⟨?_,?_,?_⟩
 all_goals
  obtain ⟨p,cs,hs,h1,h2,h3⟩:=h.slice
  obtain ⟨N,hN⟩:∃ N,v.list.length = N:=⟨_,rfl⟩
  rw [hN] at hs h1 h3 hlen
  subst hs
  obtain ⟨q,cc,hbh,hbi⟩:=hb.bytes
  subst hbh
  obtain ⟨m,hm⟩:∃ m,bl.length = m:=⟨_,rfl⟩
  rw [hm] at hbi hb hap hlen ⊢
  obtain ⟨L,hL⟩:∃ L,l.length = L:=⟨_,rfl⟩
  rw [hL] at hlen
  obtain ⟨tz,htz⟩:∃ tz,v.text.size = tz:=⟨_,rfl⟩
  rw [htz] at hlen
  have hlenI:(L:Int)+tz+m+N <= 1000000000000:=by omega
  have HO:=zH (And.intro ho (And.intro hB (And.intro hb (And.intro hap (And.intro hbi (And.intro hL (And.intro htz (And.intro hm hN))))))))
  clear h h1 h2 h3 hN ho hB hb hap hbi hm hL hlen
  go_enter func54,ntmps54
  go_upto_region 1 with fail
  obtain ⟨w0,x,hw,hx,HB0,HX,HOX,-,-,x2,-,-⟩:=bxV w v (.slice p N cs)
  rw [hw,hx]
  clear hw hx
  have HNX:=zH (show out.ownBlock ≠ some x from fun e=>by have h1:=(HO.out.1.row.lt _ e).2;have h2:=HX.out;omega)
  have HO0:=zH (show OwnBytes w0 B 5 out l from HO.out.1.of_below HB0.out)
  have HBH:=zH (show OwnBytes w0 B2 5 (.slice q m cc) bl from HO.out.2.2.1.of_below HB0.out)
  have htzI:(v.text.size:Int) <= 1000000000000:=by rw [htz];omega
  have HTZ:=zH htz
  have HTI:=zH htzI
  clear htz
  have hp:=put_bytes (v.text.size) 4 w0 (by omega) (by omega) (by omega)
  have HP1:=zH hp
  clear hp
  go_wp2_with fail
  refine HP1.out.mono ?_
  rintro e w1 ⟨rfl,hb1,hy1⟩
  have HBW1:=zH hb1
  have HY1:=zH hy1
  have HZ1:=zH (show B <= w1.heap.size from by have h1:=HO.out.2.1;have h2:=HB0.out.size;have h3:=hb1.size;omega)
  clear hb1 hy1
  have HO1:=zH (HO0.out.of_below HBW1.out)
  have HX2:=zH (bs_cellV HBW1.out x2)
  clear x2
  go_wp2_with (first
   | (at_builtin;refine wpList_append_bytesF rfl (.tmp 34) (.tmp 40) 28 rfl B underlying28 info_u8 _ l (putL v.text.size 4) _ 4 4 rfl rfl HO1.out HY1.out (by rw [HO.out.2.2.2.2.2.1];omega) HZ1.out ?_;intro u2 w2 ho2 hg2;have HO2:=zH ho2;have HG2:=zH hg2;clear ho2 hg2;have x2:=Gw.cell HG2.out HX2.out HNX.out)
   | (at_builtin;refine wpList_append_text rfl (.tmp 42) (.tmp 44) 28 9 rfl B underlying28 underlying9 info_u8 _ _ v.text rfl rfl HO2.out (by rw [List.length_append,putL_length,HO.out.2.2.2.2.2.1];have:=HTI.out;omega) (by have:=HG2.out.size;have:=HZ1.out;omega) ?_;intro u3 w3 ho3 hg3;have HO3:=zH ho3;have HG3:=zH hg3;clear ho3 hg3))
  go_ret
  exact ⟨_,rfl,by have h:=HO3.out;rw [List.append_assoc] at h;exact h,((HG2.out.pre HBW1.out).pre HB0.out).trans HG3.out⟩
def data_b0:=fun v w s h out l B ho hB bh bl B2 hb hap hlen=>(mrg_data_b0 v w s h out l B ho hB bh bl B2 hb hap hlen).1
def data_b1:=fun v w s h out l B ho hB bh bl B2 hb hap hlen=>(mrg_data_b0 v w s h out l B ho hB bh bl B2 hb hap hlen).2.1
def data_b3:=fun v w s h out l B ho hB bh bl B2 hb hap hlen=>(mrg_data_b0 v w s h out l B ho hB bh bl B2 hb hap hlen).2.2
theorem mrg_data_c0 (v:V) (w:World) (s:Value) (h:VIn w v s) (out:Value) (l:List UInt8) (B:Nat) (ho:OwnBytes w B 5 out l) (hB:B <= w.heap.size) (bh:Value) (bl:List UInt8) (B2:Nat) (hb:OwnBytes w B2 5 bh bl) (hap:bh.ownBlock = none ∨ bh.ownBlock ≠ out.ownBlock) (hlen:l.length+v.text.size+bl.length+v.list.length <= 1000000000000):(Calls prog 54 #[out,.int .u8 192,.agg #[.int .i64 v.kind,.int .u64 v.num,.string v.text,s,.int .i64 v.elem],bh] w (DataTo w B out (l ++ (putL (1+bl.length) 1 ++ (putL v.list.length 1 ++ bl))))) ∧
  (Calls prog 54 #[out,.int .u8 193,.agg #[.int .i64 v.kind,.int .u64 v.num,.string v.text,s,.int .i64 v.elem],bh] w (DataTo w B out (l ++ (putL (1+bl.length) 1 ++ (putL v.list.length 1 ++ bl))))) ∧
  (Calls prog 54 #[out,.int .u8 224,.agg #[.int .i64 v.kind,.int .u64 v.num,.string v.text,s,.int .i64 v.elem],bh] w (DataTo w B out (l ++ (putL (1+bl.length) 1 ++ (putL v.list.length 1 ++ bl))))):=by
 refine ⟨?_,?_,?_⟩
 all_goals
  obtain ⟨p,cs,hs,h1,h2,h3⟩:=h.slice
  obtain ⟨N,hN⟩:∃ N,v.list.length = N:=⟨_,rfl⟩
  rw [hN] at hs h1 h3 hlen ⊢
  subst hs
  obtain ⟨q,cc,hbh,hbi⟩:=hb.bytes
  subst hbh
  obtain ⟨m,hm⟩:∃ m,bl.length = m:=⟨_,rfl⟩
  rw [hm] at hbi hb hap hlen ⊢
  obtain ⟨L,hL⟩:∃ L,l.length = L:=⟨_,rfl⟩
  rw [hL] at hlen
  obtain ⟨tz,htz⟩:∃ tz,v.text.size = tz:=⟨_,rfl⟩
  rw [htz] at hlen
  have hlenI:(L:Int)+tz+m+N <= 1000000000000:=by omega
  have HO:=zH (And.intro ho (And.intro hB (And.intro hb (And.intro hap (And.intro hbi (And.intro hL (And.intro htz (And.intro hm hN))))))))
  clear h h1 h2 h3 hN ho hB hb hap hbi hm hL hlen
  go_enter func54,ntmps54
  go_upto_region 1 with fail
  obtain ⟨w0,x,hw,hx,HB0,HX,HOX,-,-,-,x3,-⟩:=bxV w v (.slice p N cs)
  rw [hw,hx]
  clear hw hx
  have HNX:=zH (show out.ownBlock ≠ some x from fun e=>by have h1:=(HO.out.1.row.lt _ e).2;have h2:=HX.out;omega)
  have HO0:=zH (show OwnBytes w0 B 5 out l from HO.out.1.of_below HB0.out)
  have HBH:=zH (show OwnBytes w0 B2 5 (.slice q m cc) bl from HO.out.2.2.1.of_below HB0.out)
  have hmI:(m:Int) <= 1000000000000:=by omega
  have hNI:(N:Int) <= 1000000000000:=by omega
  have HTI:=zH (And.intro hmI hNI)
  clear htz
  have hp:=put_bytes (1+m) 1 w0 (by omega) (by omega) (by omega)
  rw [show ((1+m:Nat):Int) = 1+(m:Int) from by omega] at hp
  have HP1:=zH hp
  clear hp
  go_wp2_with fail
  refine HP1.out.mono ?_
  rintro e w1 ⟨rfl,hb1,hy1⟩
  have HBW1:=zH hb1
  have HY1:=zH hy1
  have HZ1:=zH (show B <= w1.heap.size from by have h1:=HO.out.2.1;have h2:=HB0.out.size;have h3:=hb1.size;omega)
  clear hb1 hy1
  have HO1:=zH (HO0.out.of_below HBW1.out)
  have HX3:=zH (bs_cellV HBW1.out x3)
  have HBH1:=zH (HBH.out.of_below HBW1.out)
  clear x3
  go_wp2_with (first
   | (at_builtin;refine wpList_append_bytesF rfl (.tmp 46) (.tmp 53) 28 rfl B underlying28 info_u8 _ l (putL (1+m) 1) _ 1 1 rfl rfl HO1.out HY1.out (by rw [HO.out.2.2.2.2.2.1];omega) HZ1.out ?_;intro u2 w2 ho2 hg2;have HO2:=zH ho2;have HG2:=zH hg2;clear ho2 hg2;have x3:=Gw.cell HG2.out HX3.out HNX.out)
   | fail)
  have HBH2:=zH (And.intro (HG2.out.own HBH1.out HO.out.2.2.2.1) (HG2.out.apart HBH1.out HO.out.2.2.2.1))
  have hp:=put_bytes N 1 w2 (by omega) (by omega) (by omega)
  have HP3:=zH hp
  clear hp
  refine HP3.out.mono ?_
  rintro e w3 ⟨rfl,hb3,hy3⟩
  have HBW3:=zH hb3
  have HY3:=zH hy3
  clear hb3 hy3 x3
  have HO3:=zH (HO2.out.of_below HBW3.out)
  have HBH3:=zH (HBH2.out.1.of_below HBW3.out)
  have HZ3:=zH (show B <= w3.heap.size from by have h1:=HZ1.out;have h2:=HG2.out.size;have h3:=HBW3.out.size;omega)
  go_wp2_with (first
   | (at_builtin;refine wpList_append_bytesF rfl (.tmp 55) (.tmp 61) 28 rfl B underlying28 info_u8 _ _ (putL N 1) _ 1 1 rfl rfl HO3.out HY3.out (by rw [List.length_append,putL_length,HO.out.2.2.2.2.2.1];have:=HTI.out;omega) HZ3.out ?_;intro u4 w4 ho4 hg4;have HO4:=zH ho4;have HG4:=zH hg4;clear ho4 hg4;have HBH4:=zH (HG4.out.own HBH3.out HBH2.out.2);have HY5:=zH HBH4.out.sl.2)
   | (at_builtin;refine wpList_append_bytesF rfl (.tmp 63) (.tmp 64) 28 rfl B underlying28 info_u8 _ _ bl _ m cc rfl rfl HO4.out HY5.out (by rw [List.length_append,List.length_append,putL_length,putL_length,HO.out.2.2.2.2.2.1];have:=HTI.out;omega) (by have h1:=HG4.out.size;have h2:=HZ3.out;omega) ?_;intro u6 w6 ho6 hg6;have HO6:=zH ho6;have HG6:=zH hg6;clear ho6 hg6))
  go_ret
  exact ⟨_,rfl,by have h:=HO6.out;rw [List.append_assoc,List.append_assoc] at h;exact h,(((HG2.out.pre HBW1.out).pre HB0.out).trans (HG4.out.pre HBW3.out)).trans HG6.out⟩
def data_c0:=fun v w s h out l B ho hB bh bl B2 hb hap hlen=>(mrg_data_c0 v w s h out l B ho hB bh bl B2 hb hap hlen).1
def data_c1:=fun v w s h out l B ho hB bh bl B2 hb hap hlen=>(mrg_data_c0 v w s h out l B ho hB bh bl B2 hb hap hlen).2.1
def data_e0:=fun v w s h out l B ho hB bh bl B2 hb hap hlen=>(mrg_data_c0 v w s h out l B ho hB bh bl B2 hb hap hlen).2.2
theorem mrg_data_d0 (v:V) (w:World) (s:Value) (h:VIn w v s) (out:Value) (l:List UInt8) (B:Nat) (ho:OwnBytes w B 5 out l) (hB:B <= w.heap.size) (bh:Value) (bl:List UInt8) (B2:Nat) (hb:OwnBytes w B2 5 bh bl) (hap:bh.ownBlock = none ∨ bh.ownBlock ≠ out.ownBlock) (hlen:l.length+v.text.size+bl.length+v.list.length <= 1000000000000):(Calls prog 54 #[out,.int .u8 208,.agg #[.int .i64 v.kind,.int .u64 v.num,.string v.text,s,.int .i64 v.elem],bh] w (DataTo w B out (l ++ (putL (4+bl.length) 4 ++ (putL v.list.length 4 ++ bl))))) ∧
  (Calls prog 54 #[out,.int .u8 209,.agg #[.int .i64 v.kind,.int .u64 v.num,.string v.text,s,.int .i64 v.elem],bh] w (DataTo w B out (l ++ (putL (4+bl.length) 4 ++ (putL v.list.length 4 ++ bl))))) ∧
  (Calls prog 54 #[out,.int .u8 240,.agg #[.int .i64 v.kind,.int .u64 v.num,.string v.text,s,.int .i64 v.elem],bh] w (DataTo w B out (l ++ (putL (4+bl.length) 4 ++ (putL v.list.length 4 ++ bl))))):=by
 refine ⟨?_,?_,?_⟩
 all_goals
  obtain ⟨p,cs,hs,h1,h2,h3⟩:=h.slice
  obtain ⟨N,hN⟩:∃ N,v.list.length = N:=⟨_,rfl⟩
  rw [hN] at hs h1 h3 hlen ⊢
  subst hs
  obtain ⟨q,cc,hbh,hbi⟩:=hb.bytes
  subst hbh
  obtain ⟨m,hm⟩:∃ m,bl.length = m:=⟨_,rfl⟩
  rw [hm] at hbi hb hap hlen ⊢
  obtain ⟨L,hL⟩:∃ L,l.length = L:=⟨_,rfl⟩
  rw [hL] at hlen
  obtain ⟨tz,htz⟩:∃ tz,v.text.size = tz:=⟨_,rfl⟩
  rw [htz] at hlen
  have hlenI:(L:Int)+tz+m+N <= 1000000000000:=by omega
  have HO:=zH (And.intro ho (And.intro hB (And.intro hb (And.intro hap (And.intro hbi (And.intro hL (And.intro htz (And.intro hm hN))))))))
  clear h h1 h2 h3 hN ho hB hb hap hbi hm hL hlen
  go_enter func54,ntmps54
  go_upto_region 1 with fail
  obtain ⟨w0,x,hw,hx,HB0,HX,HOX,-,-,-,x3,-⟩:=bxV w v (.slice p N cs)
  rw [hw,hx]
  clear hw hx
  have HNX:=zH (show out.ownBlock ≠ some x from fun e=>by have h1:=(HO.out.1.row.lt _ e).2;have h2:=HX.out;omega)
  have HO0:=zH (show OwnBytes w0 B 5 out l from HO.out.1.of_below HB0.out)
  have HBH:=zH (show OwnBytes w0 B2 5 (.slice q m cc) bl from HO.out.2.2.1.of_below HB0.out)
  have hmI:(m:Int) <= 1000000000000:=by omega
  have hNI:(N:Int) <= 1000000000000:=by omega
  have HTI:=zH (And.intro hmI hNI)
  clear htz
  have hp:=put_bytes (4+m) 4 w0 (by omega) (by omega) (by omega)
  rw [show ((4+m:Nat):Int) = 4+(m:Int) from by omega] at hp
  have HP1:=zH hp
  clear hp
  go_wp2_with fail
  refine HP1.out.mono ?_
  rintro e w1 ⟨rfl,hb1,hy1⟩
  have HBW1:=zH hb1
  have HY1:=zH hy1
  have HZ1:=zH (show B <= w1.heap.size from by have h1:=HO.out.2.1;have h2:=HB0.out.size;have h3:=hb1.size;omega)
  clear hb1 hy1
  have HO1:=zH (HO0.out.of_below HBW1.out)
  have HX3:=zH (bs_cellV HBW1.out x3)
  have HBH1:=zH (HBH.out.of_below HBW1.out)
  clear x3
  go_wp2_with (first
   | (at_builtin;refine wpList_append_bytesF rfl (.tmp 46) (.tmp 53) 28 rfl B underlying28 info_u8 _ l (putL (4+m) 4) _ 4 4 rfl rfl HO1.out HY1.out (by rw [HO.out.2.2.2.2.2.1];omega) HZ1.out ?_;intro u2 w2 ho2 hg2;have HO2:=zH ho2;have HG2:=zH hg2;clear ho2 hg2;have x3:=Gw.cell HG2.out HX3.out HNX.out)
   | fail)
  have HBH2:=zH (And.intro (HG2.out.own HBH1.out HO.out.2.2.2.1) (HG2.out.apart HBH1.out HO.out.2.2.2.1))
  have hp:=put_bytes N 4 w2 (by omega) (by omega) (by omega)
  have HP3:=zH hp
  clear hp
  refine HP3.out.mono ?_
  rintro e w3 ⟨rfl,hb3,hy3⟩
  have HBW3:=zH hb3
  have HY3:=zH hy3
  clear hb3 hy3 x3
  have HO3:=zH (HO2.out.of_below HBW3.out)
  have HBH3:=zH (HBH2.out.1.of_below HBW3.out)
  have HZ3:=zH (show B <= w3.heap.size from by have h1:=HZ1.out;have h2:=HG2.out.size;have h3:=HBW3.out.size;omega)
  go_wp2_with (first
   | (at_builtin;refine wpList_append_bytesF rfl (.tmp 55) (.tmp 61) 28 rfl B underlying28 info_u8 _ _ (putL N 4) _ 4 4 rfl rfl HO3.out HY3.out (by rw [List.length_append,putL_length,HO.out.2.2.2.2.2.1];have:=HTI.out;omega) HZ3.out ?_;intro u4 w4 ho4 hg4;have HO4:=zH ho4;have HG4:=zH hg4;clear ho4 hg4;have HBH4:=zH (HG4.out.own HBH3.out HBH2.out.2);have HY5:=zH HBH4.out.sl.2)
   | (at_builtin;refine wpList_append_bytesF rfl (.tmp 63) (.tmp 64) 28 rfl B underlying28 info_u8 _ _ bl _ m cc rfl rfl HO4.out HY5.out (by rw [List.length_append,List.length_append,putL_length,putL_length,HO.out.2.2.2.2.2.1];have:=HTI.out;omega) (by have h1:=HG4.out.size;have h2:=HZ3.out;omega) ?_;intro u6 w6 ho6 hg6;have HO6:=zH ho6;have HG6:=zH hg6;clear ho6 hg6))
  go_ret
  exact ⟨_,rfl,by have h:=HO6.out;rw [List.append_assoc,List.append_assoc] at h;exact h,(((HG2.out.pre HBW1.out).pre HB0.out).trans (HG4.out.pre HBW3.out)).trans HG6.out⟩
def data_d0:=fun v w s h out l B ho hB bh bl B2 hb hap hlen=>(mrg_data_d0 v w s h out l B ho hB bh bl B2 hb hap hlen).1
def data_d1:=fun v w s h out l B ho hB bh bl B2 hb hap hlen=>(mrg_data_d0 v w s h out l B ho hB bh bl B2 hb hap hlen).2.1
def data_f0:=fun v w s h out l B ho hB bh bl B2 hb hap hlen=>(mrg_data_d0 v w s h out l B ho hB bh bl B2 hb hap hlen).2.2
theorem data_num {c:Nat} (hc5:5 <= c / 16) (hc8:c / 16 <= 8) (v:V) (w:World) (s:Value) (h:VIn w v s) (out:Value) (l:List UInt8) (B:Nat) (ho:OwnBytes w B 5 out l) (hB:B <= w.heap.size) (bh:Value) (bl:List UInt8) (B2:Nat) (hb:OwnBytes w B2 5 bh bl) (hap:bh.ownBlock = none ∨ bh.ownBlock ≠ out.ownBlock) (hlen:l.length+v.text.size+bl.length+v.list.length <= 1000000000000) :
  Calls prog 54 #[out,.int .u8 c,.agg #[.int .i64 v.kind,.int .u64 v.num,.string v.text,s,.int .i64 v.elem],bh] w (DataTo w B out (l ++ putL v.num.toNat (widC c))):=by
 obtain ⟨n,hn⟩:∃ n:Nat,v.num = n:=⟨v.num.toNat,by have:=h.wf.n.1;omega⟩
 have hnn:n < 18446744073709551616:=by have:=h.wf.n.2;omega
 rw [show v.num.toNat = n by omega]
 have hc256:c < 256:=by omega
 have hw:=width_any c
 have hwl:1 <= widC c∧widC c <= 8:=by
  unfold widC
  by_cases a:c / 16 = 5
  ·rw [if_pos a];omega
  rw [if_neg a]
  by_cases a:c / 16 = 6
  ·rw [if_pos a];omega
  rw [if_neg a]
  by_cases a:c / 16 = 7
  ·rw [if_pos a];omega
  rw [if_neg a,if_pos (by omega)];omega
 obtain ⟨wd,hwd⟩:∃ wd,widC c = wd:=⟨_,rfl⟩
 rw [hwd] at hw hwl ⊢
 have n148:((c:Int) == 148) = false:=by simp;omega
 have n152:((c:Int) == 152) = false:=by simp;omega
 have n160:((c:Int) == 160) = false:=by simp;omega
 have n161:((c:Int) == 161) = false:=by simp;omega
 have n163:((c:Int) == 163) = false:=by simp;omega
 have n176:((c:Int) == 176) = false:=by simp;omega
 have n177:((c:Int) == 177) = false:=by simp;omega
 have n179:((c:Int) == 179) = false:=by simp;omega
 have n192:((c:Int) == 192) = false:=by simp;omega
 have n193:((c:Int) == 193) = false:=by simp;omega
 have n224:((c:Int) == 224) = false:=by simp;omega
 have n208:((c:Int) == 208) = false:=by simp;omega
 have n209:((c:Int) == 209) = false:=by simp;omega
 have n240:((c:Int) == 240) = false:=by simp;omega
 have hput:∀ W,Calls prog 78 #[.int .u64 v.num,.int .i64 wd] W fun e w'=>e = .returned (.slice (some ⟨W.heap.size,0,none⟩) wd wd)∧Below W.heap.size W w'∧BytesIn w' (some ⟨W.heap.size,0,none⟩) wd wd (putL n wd):=fun W=>by rw [hn];exact put_bytes n wd W hwl.1 hwl.2 hnn
 have HPUT:=zH hput
 clear hput hn
 obtain ⟨p,cs,hs,h1,h2,h3⟩:=h.slice
 obtain ⟨N,hN⟩:∃ N,v.list.length = N:=⟨_,rfl⟩
 rw [hN] at hs h1 h3 hlen
 subst hs
 obtain ⟨q,cc,hbh,hbi⟩:=hb.bytes
 subst hbh
 obtain ⟨m,hm⟩:∃ m,bl.length = m:=⟨_,rfl⟩
 rw [hm] at hbi hb hap hlen ⊢
 obtain ⟨L,hL⟩:∃ L,l.length = L:=⟨_,rfl⟩
 rw [hL] at hlen
 obtain ⟨tz,htz⟩:∃ tz,v.text.size = tz:=⟨_,rfl⟩
 rw [htz] at hlen
 have hlenI:(L:Int)+tz+m+N <= 1000000000000:=by omega
 have HO:=zH (And.intro ho (And.intro hB (And.intro hb (And.intro hap (And.intro hbi (And.intro hL (And.intro htz (And.intro hm hN))))))))
 have HW:=zH hw
 clear hw hwd
 clear h h1 h2 h3 hN ho hB hb hap hbi hm hL hlen
 go_enter func54,ntmps54
 go_upto_region 1 with fail
 obtain ⟨w0,x,hw,hx,HB0,HX,HOX,-,x1,-,-,-⟩:=bxV w v (.slice p N cs)
 rw [hw,hx]
 clear hw hx
 have HNX:=zH (show out.ownBlock ≠ some x from fun e=>by have h1:=(HO.out.1.row.lt _ e).2;have h2:=HX.out;omega)
 have HO0:=zH (show OwnBytes w0 B 5 out l from HO.out.1.of_below HB0.out)
 have HBH:=zH (show OwnBytes w0 B2 5 (.slice q m cc) bl from HO.out.2.2.1.of_below HB0.out)
 have hx1:=x1
 go_upto_region 25 with fail
 clear x1
 refine wp_region_heldN (fun V=>V.cell? ⟨x,1,none⟩ = some (.int .u64 v.num)) 8 rfl (by kernel_rfl) ?_
 have hS:w0.drew.cell? ⟨x,1,none⟩ = some (.int .u64 v.num):=hx1
 clear hx1
 refine tkI 0 (out) 66 rfl rfl (by kernel_rfl) (fun _ _ _=>id) (by rfl) (by rintro V h0;go_simp) hS ?_
 try simp only [Act.put,sA,sB,sC]
 refine tkI 1 (.pointer (some ⟨x,1,none⟩)) 67 rfl rfl (by kernel_rfl) (fun _ _ _=>id) (by rfl) (by rintro V h0;go_simp) hS ?_
 try simp only [Act.put,sA,sB,sC]
 refine tkI 2 (.int .u64 v.num) 68 rfl rfl (by kernel_rfl) (fun _ _ _=>id) (by rfl) (by rintro V h0;go_simp) hS ?_
 try simp only [Act.put,sA,sB,sC]
 refine tkI 3 (.int .u8 c) 69 rfl rfl (by kernel_rfl) (fun _ _ _=>id) (by rfl) (by rintro V h0;go_simp) hS ?_
 try simp only [Act.put,sA,sB,sC]
 refine oneH (i:=4) (by kernel_rfl) ?_
 refine stepD (i:=4) rfl (by rfl) (fun K5 h5=>?_)
 go_simp
 (with_reducible refine (HW.out _ hc256).mono ?_)
 rintro e w1 ⟨rfl,rfl⟩
 refine h5.out _ _ hS ?_
 clear h5
 try simp only [Act.put,sA,sB,sC]
 refine oneH (i:=5) (by kernel_rfl) ?_
 refine stepD (i:=5) rfl (by rfl) (fun K5 h5=>?_)
 go_simp
 (with_reducible refine (HPUT.out _).mono ?_)
 rintro e w2 ⟨rfl,hb2,hy2⟩
 have hS:=bs_cellV hb2 hS
 refine h5.out _ _ hS ?_
 clear h5
 try simp only [Act.put,sA,sB,sC]
 have HB2:=zH (show Below w0.heap.size w0 w2 from ⟨hb2.os,hb2.tape,hb2.output,hb2.size,hb2.block⟩)
 have HY2:=zH hy2
 clear hb2 hy2
 refine oneH (i:=6) (by kernel_rfl) ?_
 refine stepD (i:=6) rfl (by rfl) (fun K5 h5=>?_)
 refine wp_append_bytesF (.tmp 66) (.tmp 71) 28 rfl B underlying28 info_u8 out l (putL n wd) _ wd wd rfl rfl (HO0.out.of_below HB2.out) HY2.out (by rw [HO.out.2.2.2.2.2.1];omega) (by have h1:=HB2.out.size;have h2:=HB0.out.size;have h3:=HO.out.2.1;omega) ?_
 intro u3 w3 ho3 hg3
 have hS:=Gw.cell hg3 hS HNX.out
 refine h5.out _ _ hS ?_
 clear h5
 try simp only [Act.put,sA,sB,sC]
 have HO3:=zH ho3
 have HG3:=zH hg3
 clear ho3 hg3
 refine oneH (i:=7) (by kernel_rfl) ?_
 refine stepD (i:=7) rfl (by rfl) (fun K5 h5=>?_)
 go_simp
 refine h5.out _ _ hS ?_
 clear h5
 try simp only [Act.put,sA,sB,sC]
 refine wpAnyH_done (by kernel_rfl) ?_ _
 clear hS
 try go_at_K
 go_wp2_with fail
 go_ret
 exact ⟨_,rfl,HO3.out,(HG3.out.pre HB2.out).pre HB0.out⟩

attribute [local go_sem] Oper.semAt_some

theorem putL_snoc5 (n wd k:Nat) (h:k < wd):(putL n wd).take (k+1) = (putL n wd).take k ++ [UInt8.ofNat (n / 256 ^ (wd - 1 - k) % 256)]:=by
 rw [take_succ_getD _ _ (by rw [putL_length];exact h)]
 congr 2
 simp [putL,List.getD_eq_getElem?_getD,h,byteAt]
def MkTo (w:World) (l:List UInt8) (e:Ending) (w':World):Prop:=∃ u,e = .returned u∧OwnBytes w' w.heap.size 5 u l∧Below w.heap.size w w'
def MkB (w:World) (B:Nat) (l:List UInt8) (b:Bool) (e:Ending) (w':World):Prop:=∃ p n c,e = .returned (.tuple #[.slice p n c,.bool b])∧(BytesIn w' p n c l∧∀ a,p = some a → B ≤ a.block)∧Below w.heap.size w w'
theorem OwnBytes.ex {w:World} {B T:Nat} {u:Value} {l:List UInt8} (h:OwnBytes w B T u l):∃ p n c,u = .slice p n c∧BytesIn w p n c l∧∀ a,p = some a → B ≤ a.block:=by
 obtain ⟨p,c,hu,hy⟩:=h.bytes
 exact ⟨p,_,c,hu,hy,fun a e=>(h.row.lt a.block (by rw [hu,e];rfl)).1⟩
theorem lit_bytes (w:World) (y:UInt8):BytesIn (w.alloc (.cells #[.int .u8 (y.toNat:Int)] 5)) (some ⟨w.heap.size,0,none⟩) 1 1 [y]:=by
 have h:=Blk.of_cells (w:=w.alloc (.cells #[.int .u8 (y.toNat:Int)] 5)) (b:=w.heap.size) (T:=5) (l:=[y]) (_root_.Go.heap_alloc_new w _) (by simp [byteV])
 exact h.all 1 1 rfl (Nat.le_refl _) (by unfold maxLen;omega)
theorem wpList_append_lit {P:Program} {wr:World} {ops:Array Oper} {rest:List Oper} {o:Oper} {a:Act} {Q:Exit → Act → World → Prop} (hgd:o.guard = none)
  (s x:Operand) (t:TypeId) (ho:o.op = .call { callee:=.builtin .append,args:=#[s,x],argTypes:=#[t,t] })
  (B:Nat) (ht:P.underlying t = some (.slice 5)) (hinfo:(P.info? 5).map (fun i=>(i.zero,i.size,i.bytes)) = some (some (.int .u8 0),1,1))
  (v:Value) (l:List UInt8) (y:UInt8) (yv:Value)
  (hs:a.eval s = v) (hx:a.eval x = .slice (some ⟨wr.heap.size,0,none⟩) 1 1) (hyv:yv = .int .u8 (y.toNat:Int)) (hown:OwnBytes wr B 5 v l)
  (hlen:l.length+1 ≤ 140737488355328) (hbase:B ≤ wr.heap.size)
  (h:∀ v' w',OwnBytes w' B 5 v' (l ++ [y]) → Gw wr w' v v' → wpList P ops Q rest (a.put o.dst v') w') :
  wpList P ops Q (o :: rest) a (wr.alloc (.cells #[yv] 5)):=by
 subst hyv
 have hb:Below wr.heap.size wr (wr.alloc (.cells #[.int .u8 (y.toNat:Int)] 5)):=(Below.refl _ _).alloc (Nat.le_refl _) _
 exact wpList_append_bytesF hgd s x t ho B ht hinfo v l [y] _ 1 1 hs hx (hown.of_below hb) (lit_bytes wr y) hlen (Nat.le_trans hbase hb.size) (fun v' w' h1 h2=>h v' w' h1 (h2.pre hb))
theorem rword_any (w:World) (x wd:Nat) (hx:x < 18446744073709551616) (h8:wd ≤ 8) :
  Calls Tryz.prog 65 #[.int .u64 x,.int .i64 wd] w (MkTo w (putL x wd)):=by
 go_enter Tryz.func65,Tryz.ntmps65
 go_wp2_with fail
 go_loopw [5,6] (fun s5 s6 wr=>∃ k:Nat,k ≤ wd∧s6 = .int .i64 ((wd:Int) - 1 - k)∧OwnBytes wr w.heap.size 5 s5 ((putL x wd).take k)∧Below w.heap.size w wr) (fun _ s6 _=>(intOf s6+1).toNat)
 case atStart=>exact ⟨0,by omega,by simp,OwnBytes.nil _ _ _,Below.refl _ _⟩
 obtain ⟨k,hk,rfl,ho,hB⟩:=hrel
 by_cases hlt:k < wd
 ·obtain ⟨i,hi⟩:∃ i,wd - 1 - k = i:=⟨_,rfl⟩
  have hi':(wd:Int) - 1 - (k:Int) = (i:Int):=by omega
  rw [hi']
  have hi3:i ≤ 7:=by omega
  have hs:=putL_snoc5 x wd k hlt
  rw [hi] at hs
  obtain ⟨y,hy⟩:∃ y,UInt8.ofNat (x / 256 ^ i % 256) = y:=⟨_,rfl⟩
  have hyv:(y.toNat:Int) = ((x / 256 ^ i % 256:Nat):Int):=by rw [← hy];simp
  rw [hy] at hs
  have HS:=Lib.hid hs
  have HY:=Lib.hid hyv
  have hlo:((putL x wd).take k).length = k:=by rw [List.length_take,putL_length];omega
  have HLO:=Lib.hid hlo
  have hbs:=hB.size
  clear hs hlo hy hyv hi
  go_wp2_with (at_builtin;refine wpList_append_lit rfl (.tmp 13) (.tmp 19) 28 rfl w.heap.size Tryz.underlying28 info_u8 _ ((putL x wd).take k) y _ rfl rfl ?hyv ho ?hlen ?hbase ?_)
  case hyv =>
   rw [HY.out,show (256:Nat) ^ i = 2 ^ (8 * i) by rw [Nat.pow_mul]]
   congr 1
  case hlen=>rw [HLO.out];omega
  case hbase=>exact hbs
  intro v' w' ho' hg'
  have ho2:OwnBytes w' w.heap.size 5 v' ((putL x wd).take (k+1)):=by rw [HS.out];exact ho'
  have HO2:=Lib.hid ho2
  have hB2:=hB.trans (hg'.below ho hbs)
  clear ho2 ho' hg' ho
  go_wp2_with fail
  go_roundw
  case rel=>exact ⟨k+1,by omega,congrArg (Value.int .i64) (by omega),HO2.out,hB2⟩
  case measure=>simp [intOf] <;> omega
 obtain rfl:k = wd:=by omega
 rw [List.take_of_length_le (by rw [putL_length];exact Nat.le_refl _)] at ho
 have HO:=Lib.hid ho
 have hneg:(k:Int) - 1 - (k:Int) = -1:=by omega
 rw [hneg]
 clear ho
 go_wp2_with fail
 go_ret
 exact ⟨_,rfl,HO.out,hB⟩
theorem MkTo.at_ {B:Nat} {w w':World} {u:Value} {l:List UInt8} (h:OwnBytes w' w.heap.size 5 u l) (hb:B ≤ w.heap.size):OwnBytes w' B 5 u l:=⟨ownsRow_base h.row (fun i hi=>by have h1:=(h.row.lt i hi).1;omega)⟩
theorem rspanned_any (c n wd:Nat) (hk:0 ≤ kindC c) (h12:12 ≤ c / 16) (hwc:wOf c = wd) (hn:(n:Int) ≤ 1000000000000) (w:World) (q:Option Addr) (m cc:Nat) (bl:List UInt8) (hb:BytesIn w q m cc bl) (hm:(m:Int) ≤ 1000000000000) :
  Calls Tryz.prog 66 #[.int .i64 (c:Nat),.int .i64 (n:Nat),.slice q m cc] w (MkB w w.heap.size (putL (wd+m) wd ++ (putL n wd ++ bl)) (decide (wd = 4 ∨ (n ≤ 255∧wd+m ≤ 255)))):=by
 obtain ⟨D,hD⟩:∃ D,decide (wd = 4 ∨ (n ≤ 255∧wd+m ≤ 255)) = D:=⟨_,rfl⟩
 rw [hD]
 have HDD:=Lib.hid hD
 have hwd:wd = 1 ∨ wd = 4:=by unfold wOf at hwc;split at hwc <;> omega
 have hwdI:(wd:Int) ≤ 4:=by omega
 have hc:=fun W=>rwide_any c W hk (by omega)
 rw [hwc] at hc
 have HC:=Lib.hid hc
 have hl:=hb.len
 have HB:=Lib.hid (And.intro hb hl)
 have HD:=Lib.hid hwd
 clear hb hk h12 hl hwc hc hwd hD
 go_enter Tryz.func66,Tryz.ntmps66
 go_wp2_with fail
 refine (HC.out _).mono ?_
 rintro e w1 ⟨rfl,rfl⟩
 have hp:=rword_any w (wd+m) wd (by omega) (by have:=HD.out;omega)
 rw [show ((wd+m:Nat):Int) = (wd:Int)+(m:Int) from by omega] at hp
 have HP:=Lib.hid hp
 clear hp
 go_wp2_with fail
 refine HP.out.mono ?_
 rintro e w1 ⟨u1,rfl,ho1,hb1⟩
 have HO1:=Lib.hid (And.intro ho1 (And.intro hb1 hb1.size))
 have hp:=rword_any w1 n wd (by omega) (by have:=HD.out;omega)
 have HP2:=Lib.hid hp
 clear ho1 hb1 hp
 go_wp2_with fail
 refine HP2.out.mono ?_
 rintro e w2 ⟨u2,rfl,ho2,hb2⟩
 obtain ⟨p2,c2,hu2,hy2⟩:=ho2.bytes
 rw [putL_length] at hu2 hy2
 subst hu2
 have HW2:=Lib.hid (And.intro (HO1.out.2.1.trans (hb2.mono HO1.out.2.2)) (Nat.le_trans HO1.out.2.2 hb2.size))
 have HY2:=Lib.hid hy2
 have HO2:=Lib.hid (HO1.out.1.of_below hb2)
 clear ho2 hb2 hy2
 go_upto_region 6 with (first
  | (at_builtin;refine wpList_append_bytesF rfl (.tmp 21) (.tmp 25) 28 rfl w.heap.size Tryz.underlying28 info_u8 _ (putL (wd+m) wd) (putL n wd) _ wd _ rfl rfl HO2.out HY2.out (by rw [putL_length];omega) HW2.out.2 ?_;intro u3 w3 ho3 hg3;have HO3:=Lib.hid ho3;have HW3:=Lib.hid (And.intro (HW2.out.1.trans (hg3.below HO2.out HW2.out.2)) (Nat.le_trans HW2.out.2 hg3.size));clear ho3 hg3)
  | (at_builtin;refine wpList_append_bytesF rfl (.tmp 27) (.tmp 28) 28 rfl w.heap.size Tryz.underlying28 info_u8 _ _ bl _ m cc rfl rfl HO3.out (HB.out.1.below HW3.out.1) (by rw [List.length_append,putL_length,putL_length];omega) HW3.out.2 ?_;intro u4 w4 ho4 hg4;have HO4:=Lib.hid ho4;have HW4:=Lib.hid (HW3.out.1.trans (hg4.below HO3.out HW3.out.2));clear ho4 hg4))
 have he:OwnBytes w4 w.heap.size 5 u4 (putL (wd+m) wd ++ (putL n wd ++ bl)):=by rw [← List.append_assoc];exact HO4.out
 obtain ⟨p5,n5,c5,hu5,hy5⟩:=he.ex
 subst hu5
 have HE:=Lib.hid hy5
 clear he hy5
 by_cases h4:wd = 4
 ·have e4:((wd:Int) == 4) = true:=by simp [h4]
  have H4:=Lib.hid h4
  clear h4
  go_wp2_with fail
  go_ret2
  refine ⟨_,_,_,?_,HE.out,HW4.out⟩
  rw [show D = true by rw [← HDD.out];simp [H4.out]]
  rfl
 have e4:((wd:Int) == 4) = false:=by simp;omega
 have H4:=Lib.hid h4
 clear h4
 by_cases h1:(n:Int) ≤ 255
 ·by_cases h2:(wd:Int)+(m:Int) ≤ 255
  ·go_wp2_with fail
   go_ret2
   refine ⟨_,_,_,?_,HE.out,HW4.out⟩
   rw [show D = true by rw [← HDD.out];have:=H4.out;simp;omega]
   rfl
  ·go_wp2_with fail
   go_ret2
   refine ⟨_,_,_,?_,HE.out,HW4.out⟩
   rw [show D = false by rw [← HDD.out];have:=H4.out;simp;omega]
   rfl
 go_wp2_with fail
 go_ret2
 refine ⟨_,_,_,?_,HE.out,HW4.out⟩
 rw [show D = false by rw [← HDD.out];have:=H4.out;simp;omega]
 rfl
end Go.Proofs.YtnnnfhobbnjmfaaGreatDoor
