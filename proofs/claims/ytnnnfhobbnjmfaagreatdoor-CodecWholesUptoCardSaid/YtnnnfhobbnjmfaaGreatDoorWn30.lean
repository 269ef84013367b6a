/-
  Lemmas on the codec. Conditions: as each says.
-/
import Derived.Test.YtnnnfhobbnjmfaaGreatDoorWn28
import Derived.Test.YtnnnfhobbnjmfaaGreatDoorWn29
import Derived.Test.YtnnnfhobbnjmfaaGreatDoorWn09
import Derived.Maps.OwnSet
import Derived.Maps.OwnOps
namespace Go.Proofs.YtnnnfhobbnjmfaaGreatDoor
open Go.RowKit Go.Proofs.Tryz
set_option linter.all false
set_option maxHeartbeats 40000000
set_option maxRecDepth 20000

attribute [local go_sem] Oper.semAt_some

theorem three_allocs (w:World) (a b c:Obj):∀ W,W = ((w.alloc a).alloc b).alloc c -> W.heap[w.heap.size]? = some a∧W.heap[w.heap.size+1]? = some b∧W.heap[w.heap.size+2]? = some c∧W.heap.size = w.heap.size+3∧Below w.heap.size w W:=by
 rintro W rfl
 obtain ⟨a1,a2⟩:=alloc_at w a _ rfl
 obtain ⟨b1,b2⟩:=alloc_at _ b _ a2
 obtain ⟨c1,c2⟩:=alloc_at _ c _ b2
 have o3:=fun j (hj:j < w.heap.size+2)=>hao ((w.alloc a).alloc b) c (r:=j) (by rw [b2];exact hj)
 have o2:=fun j (hj:j < w.heap.size+1)=>hao (w.alloc a) b (r:=j) (by rw [a2];exact hj)
 refine ⟨?_,?_,c1,c2,?_⟩
 ·rw [o3 _ (by omega),o2 _ (by omega)];exact a1
 ·rw [o3 _ (by omega)];exact b1
 exact (((Below.refl _ _).alloc (Nat.le_refl _) _).alloc (by rw [a2];omega) _).alloc (by rw [b2];omega) _
theorem array_walk (wd:Nat) (h4:wd <= 4) (d el:Int) (w:World) (r:Nat) (p:Option Addr) (n cp at_ en:Nat) (sz own:Int) (B:List UInt8) (h:RdIn w r p n cp at_ en sz B) (x:Except Er (List V × Nat)) (hx:∀ W b,r < b -> w.heap.size <= b -> RdIn W r p n cp at_ en sz B -> W.cell? ⟨b,0,none⟩ = some (.int .i64 (wd:Nat)) -> W.cell? ⟨b+1,0,none⟩ = some (.int .i64 d) -> W.heap[b+3]? = some (.cells #[.int .i64 23,.int .u64 0,.string ⟨#[]⟩,.slice none 0 0,.int .i64 0] 25 (0,0)) →
   Calls prog 107 #[.pointer (some ⟨r,0,none⟩),.int .i64 (wd:Nat),.int .i64 (wd+1:Nat),.func (.func 111) #[] #[.pointer (some ⟨b,0,none⟩),.pointer (some ⟨b+3,0,none⟩),.pointer (some ⟨b+1,0,none⟩)]] W fun e w'=>WTo W r (b+3) p n cp at_ en sz own 23 el x e w') :
  Calls prog 83 #[.pointer (some ⟨r,0,none⟩),.int .i64 (wd:Nat),.int .i64 d] w fun e w'=>RdTo w r p n cp at_ en sz own (spanV 23 el x) e w':=by
 have hmf:∀ (fn:Fn) (first cap:Array Value) (w:World),(Instr.makeFunc fn first cap).run prog w = .ok (.func fn first cap) w:=fun _ _ _ _=>rfl
 have hadd:IntKind.i64.wrap ((wd:Int)+1) = ((wd+1:Nat):Int):=by rw [IntWalk.i64_in _ (by omega)];omega
 have hadd2:wrap64 ((wd:Int)+1) = ((wd+1:Nat):Int):=by unfold wrap64;omega
 have HX:=zH hx
 have HR:=zH h
 have HW4:=zH h4
 clear hx h
 go_enter func83,ntmps83
 go_upto_region 1 with fail
 obtain ⟨W0,hW0⟩:∃ W0,W0 = (((w.alloc (.cells #[.int .i64 (wd:Nat)] 3)).alloc (.cells #[.int .i64 d] 3)).alloc (.cells zR 25)):=⟨_,rfl⟩
 have h5:=three_allocs w _ _ _ W0 hW0
 rw [← hW0]
 clear hW0
 obtain ⟨b,hb⟩:∃ b,w.heap.size = b:=⟨_,rfl⟩
 rw [hb] at h5
 simp only [hb,Nat.add_assoc,Nat.reduceAdd]
 obtain ⟨f0,f1,f2,fz,hb0⟩:=h5
 have x0:W0.cell? ⟨b,0,none⟩ = some (.int .i64 (wd:Nat)):=(cell_of_row _ _ 0 _ _ _ f0).trans rfl
 have x1:W0.cell? ⟨b+1,0,none⟩ = some (.int .i64 d):=(cell_of_row _ _ 0 _ _ _ f1).trans rfl
 have hb0w:Below w.heap.size w W0:=by rw [hb];exact hb0
 have H0:=zH (And.intro hb (And.intro hb0w (And.intro fz f2)))
 have HC0:=zH (And.intro x0 x1)
 clear f0 f1 f2 fz hb0 hb0w hb x0 x1
 go_upto_region 2 with (refine stV (.tmp 7) (.tmp 8) rfl rfl rfl rfl rfl (zN _ _) rfl ?_)
 refine layW W0 ?_
 intro w1 hb1 ov
 have hz5:=H0.out.2.2.1
 rw [hz5] at ov ⊢
 have y0:=bs_cellV hb1 HC0.out.1
 have y1:=bs_cellV hb1 HC0.out.2
 have H1:=zH (And.intro (H0.out.2.1.trans (hb1.mono H0.out.2.1.size)) (And.intro ov ((hb1.block (b+2) (by omega)).trans H0.out.2.2.2)))
 have HR1:=zH (HR.out.blw H1.out.1)
 have HC1:=zH (And.intro y0 y1)
 clear hb1 ov hz5 y1
 go_wp2_with fail
 refine (HX.out w1 b (by have:=HR.out.lt;have:=H0.out.1;omega) (by have:=H0.out.1;omega) HR1.out HC1.out.1 HC1.out.2 H1.out.2.1).mono ?_
 rintro e w3 hto
 rcases x with er|⟨l,k⟩
 ·obtain ⟨rfl,hk2⟩:=hto
  have hkk:=(KeepF.of_below (F:=fun g=>g = r) H1.out.1).on (H:=fun g=>g = r ∨ g = b+3) hk2 (fun j hj h=>by rcases h with h|h;exact h;exact absurd hj (by have:=H0.out.1;omega))
  exact ⟨rfl,rfl,hkk⟩
 obtain ⟨rfl,hk2,⟨sl,F,hvo,hbx⟩,hrow⟩:=hto
 obtain ⟨ps,cs,hss,_,_⟩:=hvo.slice
 rw [show (V.mk 23 0 ⟨#[]⟩ l el).list.length = l.length from rfl] at hss
 subst hss
 have hlt:=HR.out.lt
 have HY3:=zH ((hk2.block (b+2) (gl H1.out.2.2) (by have:=H0.out.1;omega)).trans H1.out.2.2)
 have H3:=zH (And.intro hvo (And.intro hk2 hrow))
 have hb3:=hbx
 clear hvo hbx hrow hk2 y0
 obtain ⟨v0,v1,v2,v3,v4⟩:=c5 hb3
 clear hb3
 go_wp2_with (refine stV (.tmp 6) (.tmp 15) rfl rfl rfl rfl rfl HY3.out rfl ?_)
 have hh:=setRow_heap w3 (b+2) _ #[.int .i64 23,.int .u64 0,.string ⟨#[]⟩,.slice ps l.length cs,.int .i64 el] _ _ HY3.out
 refine bodyPost_ret (results_cell_row (p:=6) (ty:=25) (by kernel_rfl) _ _ (b+2) 25 #[.int .i64 23,.int .u64 0,.string ⟨#[]⟩,.slice ps l.length cs,.int .i64 el] (0,0) _ rfl hh underlying25 rfl (by as_aux_lemma=>kernel_rfl)) rfl ?_
 show RdTo w r _ n cp at_ en sz own (spanV 23 el (.ok (l,k))) _ _
 have hkk:=(KeepF.of_below (F:=fun g=>g = r) H1.out.1).on (H:=fun g=>g = r ∨ g = b+3) H3.out.2.1 (fun j hj h=>by rcases h with h|h;exact h;exact absurd hj (by have:=H0.out.1;omega))
 have q1:=H0.out.1
 have q2:=(gl H1.out.2.1)
 have q3:=H1.out.1.size
 exact ⟨_,F,rfl,(H3.out.1.mono q3).keep (fun j hj=>setRow_other w3 (b+2) j _ (fun e=>by have:=(H3.out.1.lt j hj).1;omega)),⟨⟨hkk.os,hkk.tape,hkk.output,Nat.le_trans hkk.size (by simp),fun j hj hne=>(setRow_other w3 (b+2) j _ (fun e=>by omega)).trans (hkk.block j hj hne)⟩,(setRow_other w3 (b+2) r _ (fun e=>by omega)).trans H3.out.2.2⟩⟩

theorem text_len4 {c:Nat} {v:V} (h:c / 16 = 11):(datV c v).length = 4+v.text.size:=by
 have hw:wOf c = 4:=by unfold wOf;rw [if_neg (by omega)]
 unfold datV datB
 rw [if_neg (by omega),if_pos (by omega),List.length_append,putL_length,V.tb_len,hw]
theorem span_len4 {c:Nat} {v:V} (h:c / 16 = 13 ∨ c / 16 = 15):(datV c v).length = 8+(inn v).length:=by
 have hw:wOf c = 4:=by unfold wOf;rw [if_neg (by omega)]
 rw [span_form (by omega),List.length_append,List.length_append,putL_length,putL_length,hw]
 omega
theorem inn_le {c:Nat} {v:V} (h:12 ≤ c / 16):(inn v).length ≤ (datV c v).length:=by
 rw [span_form h,List.length_append,List.length_append]
 omega
theorem flat_le (f:V → List UInt8):∀ {l:List V} {x:V},x ∈ l → (f x).length ≤ (l.flatMap f).length
 | a :: r,x,h=>by
  rw [List.flatMap_cons,List.length_append]
  rcases List.mem_cons.1 h with rfl|h
  ·omega
  ·have:=flat_le f h;omega
def DatOk2 (n:Nat):Prop:=∀ (v:V) (s:Bool),Right v → v.dep ≤ n → v.wt ≤ 4294967295∧(datV (codeK v.kind s) v).length ≤ 4294967295 → 1 ≤ v.kind → v.kind ≤ 23 → (s = true → smV v = true) → ∀ t,rdD n (codeK v.kind s) (datV (codeK v.kind s) v ++ t) = .ok (v,(datV (codeK v.kind s) v).length)
def ValOk2 (n:Nat):Prop:=∀ (v:V),Right v → v.dep ≤ n → v.wt ≤ 4294967295∧(putV v).length ≤ 4294967295 → ∀ t,rdV n (putV v ++ t) = .ok (v,(putV v).length)
theorem dat_b0x {v:V} {rv:List UInt8 → Res} {rd:Nat → List UInt8 → Res} (hr:Right v) (e:v.kind = 18) (hw:v.wt ≤ 4294967295∧(datV 176 v).length ≤ 4294967295) (t:List UInt8):datR rv rd 176 (datV 176 v ++ t) = .ok (v,(datV 176 v).length):=by
 have f:=hr.fields
 unfold datR
 rw [if_neg (by decide),if_pos (by decide)]
 exact text_rt (by decide) (by have h:=text_len4 (v:=v) (c:=176) rfl;have h2:=hw.2;show _ < 256 ^ 4;omega) (by show (-1:Int) < 0;omega) (V.ext e (f.num (by rw [e];decide)) rfl (f.list (by rw [e];decide)) (f.elem (by omega)))
theorem dat_b1x {v:V} {rv:List UInt8 → Res} {rd:Nat → List UInt8 → Res} (hr:Right v) (e:v.kind = 19) (hw:v.wt ≤ 4294967295∧(datV 177 v).length ≤ 4294967295) (t:List UInt8):datR rv rd 177 (datV 177 v ++ t) = .ok (v,(datV 177 v).length):=by
 have f:=hr.fields
 unfold datR
 rw [if_neg (by decide),if_pos (by decide)]
 exact text_rt (by decide) (by have h:=text_len4 (v:=v) (c:=177) rfl;have h2:=hw.2;show _ < 256 ^ 4;omega) (by have h:=f.textOk;rw [e] at h;simp [textOk] at h;exact h) (V.ext e (f.num (by rw [e];decide)) rfl (f.list (by rw [e];decide)) (f.elem (by omega)))
theorem dat_b3x {v:V} {rv:List UInt8 → Res} {rd:Nat → List UInt8 → Res} (hr:Right v) (e:v.kind = 20) (hw:v.wt ≤ 4294967295∧(datV 179 v).length ≤ 4294967295) (t:List UInt8):datR rv rd 179 (datV 179 v ++ t) = .ok (v,(datV 179 v).length):=by
 have f:=hr.fields
 unfold datR
 rw [if_neg (by decide),if_pos (by decide)]
 exact text_rt (by decide) (by have h:=text_len4 (v:=v) (c:=179) rfl;have h2:=hw.2;show _ < 256 ^ 4;omega) (by have h:=f.textOk;rw [e] at h;simp [textOk] at h;exact h) (V.ext e (f.num (by rw [e];decide)) rfl (f.list (by rw [e];decide)) (f.elem (by omega)))
theorem dat_d0x {v:V} {rv:List UInt8 → Res} {rd:Nat → List UInt8 → Res} (hr:Right v) (e:v.kind = 21) (hw:v.wt ≤ 4294967295∧(datV 208 v).length ≤ 4294967295) (hrv:∀ x ∈ v.list,∀ t,rv (putV x ++ t) = .ok (x,(putV x).length)) (t:List UInt8):datR rv rd 208 (datV 208 v ++ t) = .ok (v,(datV 208 v).length):=by
 have f:=hr.fields
 unfold datR
 rw [if_neg (by decide),if_neg (by decide),if_pos (by decide),within_rt (c:=208) (by decide) (by have h:=span_len4 (v:=v) (c:=208) (by decide);have h2:=hw.2;show 4+_ < 256 ^ 4;omega) (by omega),span_rt (c:=208) (by decide) (by rw [e];decide) (by have h:=list_wt v;have h2:=hw.1;show _ < 256 ^ 4;omega) hrv (fun q=>absurd q (by decide)) (V.ext e (f.num (by rw [e];decide)) (f.text (by rw [e];decide)) rfl (f.elem (by omega)))]
 rw [span_form (by decide)]
 simp only [List.length_append,putL_length]
theorem dat_d1x {v:V} {rv:List UInt8 → Res} {rd:Nat → List UInt8 → Res} (hr:Right v) (e:v.kind = 22) (hw:v.wt ≤ 4294967295∧(datV 209 v).length ≤ 4294967295) (hrv:∀ x ∈ v.list,∀ t,rv (putV x ++ t) = .ok (x,(putV x).length)) (t:List UInt8):datR rv rd 209 (datV 209 v ++ t) = .ok (v,(datV 209 v).length):=by
 have f:=hr.fields
 unfold datR
 rw [if_neg (by decide),if_neg (by decide),if_pos (by decide),within_rt (c:=209) (by decide) (by have h:=span_len4 (v:=v) (c:=209) (by decide);have h2:=hw.2;show 4+_ < 256 ^ 4;omega) (by omega),span_rt (c:=209) (by decide) (by rw [e];decide) (by have h:=list_wt v;have h2:=hw.1;show _ < 256 ^ 4;omega) hrv (fun _=>f.map e) (V.ext e (f.num (by rw [e];decide)) (f.text (by rw [e];decide)) rfl (f.elem (by omega)))]
 rw [span_form (by decide)]
 simp only [List.length_append,putL_length]
theorem dat_f0x {v:V} {rv:List UInt8 → Res} {rd:Nat → List UInt8 → Res} (hr:Right v) (e:v.kind = 23) (hw:v.wt ≤ 4294967295∧(datV 240 v).length ≤ 4294967295) (hrd:∀ x ∈ v.list,∀ t,rd (uniC v) (datV (uniC v) x ++ t) = .ok (x,(datV (uniC v) x).length)) (t:List UInt8):datR rv rd 240 (datV 240 v ++ t) = .ok (v,(datV 240 v).length):=by
 have f:=hr.fields
 have ha:=f.arr e
 simp only [arrOk,decide_eq_true_eq] at ha
 have hc:=codeK_kind v.elem (v.list.all smV) (by omega) (by omega)
 have hl:1 ≤ (inn v).length:=by rw [inn_eq,if_pos e,List.length_cons];omega
 unfold datR
 rw [if_neg (by decide),if_neg (by decide),if_neg (by decide),if_pos (by decide),within_rt (c:=240) (by decide) (by have h:=span_len4 (v:=v) (c:=240) (by decide);have h2:=hw.2;show 4+_ < 256 ^ 4;omega) (by omega),arr_rt (c:=240) (by decide) e (by have h:=list_wt v;have h2:=hw.1;show _ < 256 ^ 4;omega) hc.2 hrd hc.1 (V.ext e (f.num (by rw [e];decide)) (f.text (by rw [e];decide)) rfl rfl)]
 rw [span_form (by decide)]
 simp only [List.length_append,putL_length]

theorem datOk2_zero:DatOk2 0:=fun v s hr hd=>by have:=(dep_bd v).1;omega
theorem valOk2_zero:ValOk2 0:=fun v hr hd=>by have:=(dep_bd v).1;omega
theorem datOk2_succ {n:Nat} (hD:DatOk2 n) (hV:ValOk2 n):DatOk2 (n+1):=by
 intro v s hr hd hw h1 h2 hs t
 rw [rdD_succ]
 have h16:(v.kind = 21 ∨ v.kind = 22 ∨ v.kind = 23) → 12 ≤ codeK v.kind s / 16:=by
  rintro (e|e|e) <;> rw [e] <;> cases s <;> decide
 have hz:(v.kind = 21 ∨ v.kind = 22) → ∀ x ∈ v.list,∀ t,rdV n (putV x ++ t) = .ok (x,(putV x).length):=fun e x hx t=>hV x (hr.part hx) (by have:=dep_in hx;omega) ⟨by have:=V.wt_lt hx;omega,by
  have q1:=inn_le (v:=v) (h16 (by omega))
  have q2:=flat_le putV hx
  have q3:inn v = putVs v.list:=by rw [inn_eq,if_neg (by omega)]
  rw [q3] at q1
  exact Nat.le_trans q2 (Nat.le_trans q1 hw.2)⟩ t
 have hy:v.kind = 23 → ∀ x ∈ v.list,∀ t,rdD n (uniC v) (datV (uniC v) x ++ t) = .ok (x,(datV (uniC v) x).length):=fun e x hx t=>by
  have ha:=hr.fields.arr e
  simp only [arrOk,decide_eq_true_eq] at ha
  have hk:=ha.2.2 x hx
  have hl:(datV (codeK x.kind (v.list.all smV)) x).length ≤ 4294967295:=by
   rw [hk]
   have q1:=inn_le (v:=v) (h16 (by omega))
   have q2:=flat_le (datV (uniC v)) hx
   have q3:inn v = UInt8.ofNat (uniC v) :: datVs (uniC v) v.list:=by rw [inn_eq,if_pos e]
   rw [q3,List.length_cons] at q1
   exact Nat.le_trans q2 (Nat.le_trans (Nat.le_succ _) (Nat.le_trans q1 hw.2))
  have:=hD x (v.list.all smV) (hr.part hx) (by have:=dep_in hx;omega) ⟨by have:=V.wt_lt hx;omega,hl⟩ (by omega) (by omega) (fun q=>List.all_eq_true.1 q x hx) t
  rw [hk] at this
  exact this
 have hk:v.kind = 1 ∨ v.kind = 2 ∨ v.kind = 3 ∨ v.kind = 4 ∨ v.kind = 5 ∨ v.kind = 6 ∨ v.kind = 7 ∨ v.kind = 8 ∨ v.kind = 9 ∨ v.kind = 10 ∨ v.kind = 11 ∨ v.kind = 12 ∨ v.kind = 13 ∨ v.kind = 14 ∨ v.kind = 15 ∨ v.kind = 16 ∨ v.kind = 17 ∨ v.kind = 18 ∨ v.kind = 19 ∨ v.kind = 20 ∨ v.kind = 21 ∨ v.kind = 22 ∨ v.kind = 23:=by omega
 rcases hk with e|e|e|e|e|e|e|e|e|e|e|e|e|e|e|e|e|e|e|e|e|e|e
 ·rw [e]
  rw [show codeK 1 s = 86 by cases s <;> rfl]
  exact dat_56 hr e t
 ·rw [e]
  rw [show codeK 2 s = 80 by cases s <;> rfl]
  exact dat_50 hr e t
 ·rw [e]
  rw [show codeK 3 s = 96 by cases s <;> rfl]
  exact dat_60 hr e t
 ·rw [e]
  cases s
  ·exact dat_70 hr e t
  ·exact dat_52 hr e (hs rfl) t
 ·rw [e]
  cases s
  ·exact dat_80 hr e t
  ·exact dat_53 hr e (hs rfl) t
 ·rw [e]
  rw [show codeK 6 s = 81 by cases s <;> rfl]
  exact dat_51 hr e t
 ·rw [e]
  rw [show codeK 7 s = 97 by cases s <;> rfl]
  exact dat_61 hr e t
 ·rw [e]
  cases s
  ·exact dat_71 hr e t
  ·exact dat_54 hr e (hs rfl) t
 ·rw [e]
  cases s
  ·exact dat_81 hr e t
  ·exact dat_55 hr e (hs rfl) t
 ·rw [e]
  rw [show codeK 10 s = 114 by cases s <;> rfl]
  exact dat_72 hr e t
 ·rw [e]
  rw [show codeK 11 s = 130 by cases s <;> rfl]
  exact dat_82 hr e t
 ·rw [e]
  rw [show codeK 12 s = 116 by cases s <;> rfl]
  exact dat_74 hr e t
 ·rw [e]
  rw [show codeK 13 s = 132 by cases s <;> rfl]
  exact dat_84 hr e t
 ·rw [e]
  rw [show codeK 14 s = 148 by cases s <;> rfl]
  exact dat_94 hr e t
 ·rw [e]
  rw [show codeK 15 s = 115 by cases s <;> rfl]
  exact dat_73 hr e t
 ·rw [e]
  rw [show codeK 16 s = 131 by cases s <;> rfl]
  exact dat_83 hr e t
 ·rw [e]
  rw [show codeK 17 s = 152 by cases s <;> rfl]
  exact dat_98 hr e t
 ·rw [e]
  cases s
  ·exact dat_b0x hr e ⟨hw.1,by have:=hw.2;rw [e] at this;exact this⟩ t
  ·exact dat_a0 hr e (hs rfl) t
 ·rw [e]
  cases s
  ·exact dat_b1x hr e ⟨hw.1,by have:=hw.2;rw [e] at this;exact this⟩ t
  ·exact dat_a1 hr e (hs rfl) t
 ·rw [e]
  cases s
  ·exact dat_b3x hr e ⟨hw.1,by have:=hw.2;rw [e] at this;exact this⟩ t
  ·exact dat_a3 hr e (hs rfl) t
 ·rw [e]
  cases s
  ·exact dat_d0x hr e ⟨hw.1,by have:=hw.2;rw [e] at this;exact this⟩ (hz (by omega)) t
  ·exact dat_c0 hr e (hs rfl) (hz (by omega)) t
 ·rw [e]
  cases s
  ·exact dat_d1x hr e ⟨hw.1,by have:=hw.2;rw [e] at this;exact this⟩ (hz (by omega)) t
  ·exact dat_c1 hr e (hs rfl) (hz (by omega)) t
 ·rw [e]
  have hy:=hy e
  cases s
  ·exact dat_f0x hr e ⟨hw.1,by have:=hw.2;rw [e] at this;exact this⟩ hy t
  ·exact dat_e0 hr e (hs rfl) hy t
theorem valOk2_succ {n:Nat} (hD:DatOk2 (n+1)) (hV:ValOk2 n):ValOk2 (n+1):=by
 intro v hr hd hw t
 rw [rdV_succ]
 have f:=hr.fields
 have hz:v.kind = 24 → loneC v = none → ∀ x ∈ v.list,∀ t,rdV n (putV x ++ t) = .ok (x,(putV x).length):=fun e hl x hx t=>hV x (hr.part hx) (by have:=dep_in hx;omega) ⟨by have:=V.wt_lt hx;omega,by
  have q2:=flat_le putV hx
  have q3:inn v = putVs v.list:=by rw [inn_eq,if_neg (by omega)]
  have q4:=hw.2
  rw [putV_eq,hl] at q4
  simp only at q4
  rw [if_pos e,List.length_cons,q3] at q4
  exact Nat.le_trans q2 (Nat.le_trans (Nat.le_succ _) q4)⟩ t
 have hdl:loneC v = none → v.kind ≠ 24 → (datV (codeK v.kind (smV v)) v).length ≤ 4294967295:=fun hl e=>by
  have q4:=hw.2
  rw [putV_eq,hl] at q4
  simp only at q4
  rw [if_neg e,List.length_cons] at q4
  omega
 rw [putV_eq]
 cases hl:loneC v with
 | some c =>
  obtain ⟨h1,h2,h3,h4,h5⟩:=lone_form hr hl
  simp only [List.cons_append,List.nil_append,valR,ofNat_toNat h1]
  rw [if_neg h2,if_neg h3,if_pos h4]
  exact congrArg Except.ok (Prod.ext h5.symm rfl)
 | none =>
  have h0:=lone_none hl
  simp only
  by_cases h24:v.kind = 24
  ·rw [if_pos h24]
   simp only [List.cons_append,valR,UInt8.toNat_zero]
   rw [if_neg (by decide),if_pos trivial]
   have hp:=f.pair h24
   obtain ⟨a,b,hab⟩:∃ a b,v.list = [a,b]:=by
    match hv:v.list,hp with
    | [a,b],_=>exact ⟨a,b,rfl⟩
   have e:inn v = putV a ++ putV b:=by rw [inn_eq,if_neg (by omega),hab];simp [putVs]
   unfold pairR
   rw [e,List.append_assoc,hz h24 hl a (by rw [hab];simp)]
   simp only [List.drop_left]
   rw [hz h24 hl b (by rw [hab];simp)]
   refine congrArg Except.ok (Prod.ext (V.ext h24.symm (f.num (by rw [h24];decide)).symm (f.text (by rw [h24];decide)).symm hab.symm (f.elem (by omega)).symm) ?_)
   simp only [List.length_cons,List.length_append]
   omega
  ·rw [if_neg h24]
   have hk:=codeK_kind v.kind (smV v) (by have:=f.k0;omega) (by have:=f.k1;omega)
   obtain ⟨q1,q2,q3⟩:=hk.2
   simp only [List.cons_append,valR,ofNat_toNat (codeK_lt _ _)]
   rw [if_neg (by omega),if_neg q2,if_neg q3]
   have:=hD v (smV v) hr hd ⟨hw.1,hdl hl h24⟩ (by have:=f.k0;omega) (by have:=f.k1;omega) (fun q=>q) t
   rw [rdD_succ] at this
   rw [this]
   refine congrArg Except.ok (Prod.ext rfl ?_)
   simp only [List.length_cons]
   omega
theorem both_ok2:∀ n:Nat,DatOk2 n∧ValOk2 n
 | 0=>⟨datOk2_zero,valOk2_zero⟩
 | n+1=>by
  obtain ⟨h1,h2⟩:=both_ok2 n
  have h3:=datOk2_succ h1 h2
  exact ⟨h3,valOk2_succ h3 h2⟩
theorem put_inj2 {v w:V} (hv:Right v) (hdv:v.dep ≤ 32) (hwv:v.wt ≤ 4294967295) (hlv:(putV v).length ≤ 4294967295) (hw:Right w) (hdw:w.dep ≤ 32) (hww:w.wt ≤ 4294967295) (hlw:(putV w).length ≤ 4294967295) (h:putV v = putV w):v = w:=by
 have h1:=(both_ok2 32).2 v hv hdv ⟨hwv,hlv⟩ []
 have h2:=(both_ok2 32).2 w hw hdw ⟨hww,hlw⟩ []
 rw [h,h2] at h1
 simp only [Except.ok.injEq,Prod.mk.injEq] at h1
 exact h1.1.symm
end Go.Proofs.YtnnnfhobbnjmfaaGreatDoor

namespace Go.Proofs.YtnnnfhobbnjmfaaGreatDoor
open Go.RowKit Go.Maps Go.Proofs.Tryz
set_option linter.all false
set_option maxHeartbeats 40000000
set_option maxRecDepth 20000

attribute [local go_sem] Oper.semAt_some

/-! ### a set of texts, each told 1 -/
def holdT (v:Value):Option (DataW Value × List MemPlace):=some (.held v,[])
def keyL (s:ByteArray):Lit:=.string s.data.toList
structure SetIs (D:DataW Value) (ks:List ByteArray):Prop where
 tidy:Maps.Tidy D
 has:∀ s,Maps.has D (keyL s) = true ↔ s ∈ ks
 at_:∀ s ∈ ks,∀ z,D.atKey (keyL s) z = .held (.int .i64 1)
 size:Maps.size D = ks.length
theorem keyL_ne {s t:ByteArray} (h:s ≠ t):keyL s ≠ keyL t:=fun e=>h (by
 unfold keyL at e
 injection e with e
 cases s;cases t
 simp only [ByteArray.mk.injEq]
 simpa using e)
theorem keyL_is (s:ByteArray):WideAt.IsKeyLit (keyL s):=trivial
theorem SetIs.nil:SetIs (.map []) []:=⟨Maps.tidy_empty,fun i=>⟨fun h=>by simp [Maps.has] at h,fun h=>by simp at h⟩,fun p hp=>by simp at hp,rfl⟩
theorem SetIs.put {D:DataW Value} {ks:List ByteArray} (h:SetIs D ks) {s:ByteArray} (hn:s ∉ ks):SetIs (D.put (keyL s) (.held (.int .i64 1))) (ks ++ [s]):=by
 have hh:Maps.has D (keyL s) = false:=by
  cases q:Maps.has D (keyL s) with
  | false=>rfl
  | true=>exact absurd ((h.has s).1 q) hn
 refine ⟨h.tidy.put (keyL_is s) _,fun t=>?_,fun t ht z=>?_,?_⟩
 ·by_cases e:t = s
  ·subst e
   rw [Maps.has_put_same h.tidy.isMap (keyL_is _)]
   simp
  ·rw [Maps.has_put_other (keyL_ne e),h.has]
   simp [e]
 ·rcases List.mem_append.1 ht with hu|hu
  ·rw [Maps.atKey_put_other (keyL_ne (fun e=>by subst e;exact hn hu))]
   exact h.at_ t hu z
  ·obtain rfl:t = s:=by simpa using hu
   exact Maps.atKey_put_same h.tidy.isMap (keyL_is _) _ _
 ·rw [Maps.size_put h.tidy,hh,h.size]
  simp
def SetOf (w:World) (m:Nat) (ks:List ByteArray):Prop:=∃ D,w.ownsMap prog 9 holdT m ks.length D∧SetIs D ks
theorem SetOf.lt {w:World} {m:Nat} {ks:List ByteArray} (h:SetOf w m ks):m < w.heap.size:=by obtain ⟨D,h1,_⟩:=h;exact h1.lt
theorem SetOf.same {w w':World} {m:Nat} {ks:List ByteArray} (h:SetOf w m ks) (e:w'.heap[m]? = w.heap[m]?):SetOf w' m ks:=by
 obtain ⟨D,⟨es,clock,hb,r⟩,h2⟩:=h
 exact ⟨D,⟨es,clock,e.trans hb,r⟩,h2⟩
theorem SetOf.made (w:World):SetOf (w.alloc (.map #[] 0)) w.heap.size []:=⟨_,World.ownsMap_made _ _ _ _,SetIs.nil⟩
theorem ownsMap_fitT {P:Program} {k:TypeId} {R:Value -> Option (DataW Value × List MemPlace)} {w:World} {b n:Nat} {D:DataW Value} (h:w.ownsMap P k R b n D):w.ownsMap P k R b (Maps.size D) D:=by
 obtain ⟨es,clock,hb,F,hs,rfl⟩:=h
 exact ⟨es,clock,hb,F,by simp [Maps.size,length_sorted],rfl⟩
theorem keyOf_text {s:ByteArray} (hs:s.size <= maxLen):keyOf prog 9 (.string s) = some (keyL s):=WideMaps.keyOf_string_mk underlying9 hs
theorem zero_intT (w:World):(zeroValue 3).run prog w = .ok (.int .i64 0) w:=by kernel_rfl
theorem SetOf.get {w:World} {m:Nat} {ks:List ByteArray} (h:SetOf w m ks) {s:ByteArray} (hs:s.size <= maxLen) :
  (s ∈ ks -> (Instr.lookup 137 (.map (some m)) (.string s) false).run prog w = .ok (.int .i64 1) w)∧(s ∉ ks -> (Instr.lookup 137 (.map (some m)) (.string s) false).run prog w = .ok (.int .i64 0) w):=by
 obtain ⟨D,h1,h2⟩:=h
 obtain ⟨v,ps,hr,hv⟩:=h1.lookup (string_keyed underlying9) underlying137 (z:=.int .i64 0) (zero_intT w) (show holdT (.int .i64 0) = some (.held (.int .i64 0),[]) from rfl) (keyOf_text hs)
 rw [hr]
 simp only [holdT,Option.some.injEq,Prod.mk.injEq] at hv
 refine ⟨fun hm=>?_,fun hm=>?_⟩
 ·rw [h2.at_ s hm] at hv
  rw [DataW.held.inj hv.1]
 ·rw [Maps.atKey_of_not_has (by cases q:Maps.has D (keyL s) with
    | false=>rfl
    | true=>exact absurd ((h2.has s).1 q) hm)] at hv
  rw [DataW.held.inj hv.1]
theorem SetOf.put {w:World} {m:Nat} {ks:List ByteArray} (h:SetOf w m ks) {s:ByteArray} (hs:s.size <= maxLen) (hn:s ∉ ks) (hl:ks.length < maxLen) :
  ∃ w',(Instr.mapUpdate 137 (.map (some m)) (.string s) (.int .i64 1)).run prog w = .ok () w'∧SetOf w' m (ks ++ [s])∧w.grownBy w' (some m):=by
 obtain ⟨D,h1,h2⟩:=h
 obtain ⟨w',hr,h3,h4⟩:=h1.update (string_keyed underlying9) underlying137 hl (keyOf_text hs) (show holdT (.int .i64 1) = some (.held (.int .i64 1),[]) from rfl)
 refine ⟨w',hr,⟨_,?_,h2.put hn⟩,h4⟩
 have h5:=ownsMap_fitT h3
 rw [(h2.put hn).size] at h5
 exact h5

/-! ### keys -/
def keyB (v:V):ByteArray:=⟨(putV v).toArray⟩
theorem keyB_size (v:V):(keyB v).size = (putV v).length:=rfl
structure Okk (v:V):Prop where
 right:Right v
 dep:v.dep <= 32
 wt:v.wt <= 4294967295
 len:(putV v).length <= 4294967295
theorem keyB_inj {v w:V} (hv:Okk v) (hw:Okk w) (h:keyB v = keyB w):v = w:=by
 refine put_inj2 hv.right hv.dep hv.wt hv.len hw.right hw.dep hw.wt hw.len ?_
 unfold keyB at h
 simp only [ByteArray.mk.injEq] at h
 have:=congrArg Array.toList h
 simpa using this
def TwTo (l:List V) (w:World) (e:Ending) (w':World):Prop:=(∃ b:Bool,e = .returned (.bool b)∧(b = true ↔ ¬ (evens l).Nodup))∧Below w.heap.size w w'
theorem evens_mem:∀ {l:List V} {x:V},x ∈ evens l -> x ∈ l
 | [a],x,h=>by simpa [evens] using h
 | a :: b :: r,x,h=>by
  rw [evens] at h
  rcases List.mem_cons.1 h with rfl|h
  ·simp
  ·exact List.mem_cons_of_mem _ (List.mem_cons_of_mem _ (evens_mem h))
theorem twice_any (l:List V) (hok:∀ x ∈ l,Okk x) (hlen:l.length <= 4294967296) (w:World) (B:Nat) (s:Value) (F:Nat -> Prop) (hv:VO w B (V.mk 22 0 ⟨#[]⟩ l 0) s F) :
  Calls prog 110 #[s] w fun e w'=>TwTo l w e w':=by
 have hmm:=@run_makeMap prog
 have hvi:=hv.vin
 obtain ⟨p,cs,hs,h1,h2,h3⟩:=hvi.slice
 obtain ⟨N,hN⟩:∃ N,l.length = N:=⟨_,rfl⟩
 rw [show (V.mk 22 0 ⟨#[]⟩ l 0).list.length = N from hN] at hs h1 h3
 subst hs
 have hNb:(N:Int) <= 4294967296:=by omega
 have hEl:(evens l).length = (N+1) / 2:=by rw [evens_len,hN]
 have HV:=zH (And.intro hvi (And.intro hN h3))
 have HOK:=zH hok
 have HEL:=zH hEl
 have HNB:=zH (show N <= 4294967296 by rw [← hN];exact hlen)
 clear hv hvi hN h1 h2 h3 hok hlen hEl
 go_enter func110,ntmps110
 go_upto_region 2 with fail
 have hb0:Below w.heap.size w (w.alloc (.map #[] 0)):=(Below.refl _ _).alloc (Nat.le_refl _) _
 have hs0:=SetOf.made w
 generalize w.alloc (.map #[] 0) = w0 at *
 obtain ⟨m,hm⟩:∃ m,w.heap.size = m:=⟨_,rfl⟩
 rw [hm] at hs0 ⊢
 have HB0:=zH (And.intro hm (And.intro hb0 hs0))
 clear hb0 hs0 hm hmm
 go_wp2_with fail
 go_loopw [4] (fun v4 wr=>∃ j i:Nat,i = 2 * j∧j <= (evens l).length∧v4 = .int .i64 i∧SetOf wr m (((evens l).take j).map keyB)∧(((evens l).take j).map keyB).Nodup∧Below w.heap.size w wr) (fun v4 _=>(N+1) - (intOf v4).toNat)
 case atStart=>exact ⟨0,0,rfl,Nat.zero_le _,rfl,by simpa using HB0.out.2.2,by simp,HB0.out.2.1⟩
 obtain ⟨j,i,hij,hjE,rfl,hset,hnd,hb⟩:=hrel
 have HS:=zH (And.intro hset (And.intro hnd (And.intro hb (And.intro hij hjE))))
 clear hset hnd hb hij hjE
 by_cases hlt:(i:Int) < N
 ·have hiN:i < N:=by omega
  have HIN:=zH hiN
  have ka:i < (V.mk 22 0 ⟨#[]⟩ l 0).list.length:=by rw [show (V.mk 22 0 ⟨#[]⟩ l 0).list.length = N from HV.out.2.1];exact hiN
  have hjl:j < (evens l).length:=by rw [HEL.out];have:=HS.out.2.2.2.1;omega
  have hEj:(evens l)[j]? = some (l[i]'ka):=by
   have h0:=HS.out.2.2.2.1
   subst h0
   rw [List.getElem?_eq_getElem hjl,evens_get l j ka hjl]
  obtain ⟨b,o,rfl⟩:=HV.out.2.2 (by omega)
  obtain ⟨t,hct,hvx⟩:=HV.out.1.part rfl ka
  have hvx':VIn w (l[i]'ka) t:=hvx
  obtain ⟨px,nx,hsx,_⟩:=hvx'.slice
  have hky:=HOK.out _ (List.getElem_mem ka)
  have hky':Okk (l[i]'ka):=hky
  obtain ⟨c0,c1,c2,c3,c4⟩:=part_cells (rangeAt_rd hct (rd_below HS.out.2.2.1))
  have HE:=zH (And.intro hjl hEj)
  have hee:(V.mk 22 0 ⟨#[]⟩ l 0).list[i] = l[i]'ka:=rfl
  rw [hee] at c0 c1 c2 c4
  clear hct hvx hky hee
  generalize hy:l[i]'ka = y at *
  obtain ⟨ny,hny⟩:∃ ny,y.list.length = ny:=⟨_,rfl⟩
  rw [hny] at hsx
  subst hsx
  have hput:=(both_on y).2 hky'.right (by have:=hky'.wt;omega) wr wr _ (.slice none 0 0) [] (hvx'.blw HS.out.2.2.1) (Below.refl _ _) (OwnBytes.nil _ _ _) (by have:=hky'.wt;simp only [List.length_nil];omega)
  have HP:=zH hput
  have HY:=zH (And.intro hky' hy)
  clear hput hky' hvx' hy hjl hEj hny hiN
  go_wp2_with fail
  refine HP.out.mono ?_
  rintro e w2 ⟨u,rfl,hou,hgw⟩
  have hb2:=hgw.below (OwnBytes.nil wr wr.heap.size 5) (Nat.le_refl _)
  rw [List.nil_append] at hou
  have hms:m < wr.heap.size:=HS.out.1.lt
  have hset2:=HS.out.1.same (hb2.block m hms)
  obtain ⟨pu,nu,cu,rfl⟩:∃ pu nu cu,u = .slice pu nu cu:=by obtain ⟨a,c,e,_⟩:=hou.bytes;exact ⟨a,_,c,e⟩
  have hcv:(convert 28 9 (.slice pu nu cu)).run prog w2 = .ok (.string (keyB y)) w2:=run_string_bytes w2 _ _ 5 underlying28 underlying5 underlying9 _ _ _ _ hou.sl.2
  have hkz:(keyB y).size <= maxLen:=by rw [keyB_size];have:=HY.out.1.len;unfold maxLen;omega
  have hlk:=hset2.get hkz
  have HB2:=zH (And.intro (HS.out.2.2.1.trans (hb2.mono HS.out.2.2.1.size)) hset2)
  have HKZ:=zH hkz
  clear hou hgw hb2 hset2 hkz hms c0 c1 c2 c3 c4
  by_cases hin:keyB y ∈ ((evens l).take j).map keyB
  ·have hlk:=hlk.1 hin
   have HIN2:=zH (show ¬ (evens l).Nodup from fun hn=>by
    obtain ⟨x,hx,hxk⟩:=List.mem_map.1 hin
    have hx2:=List.mem_of_mem_take hx
    have e:=keyB_inj (HOK.out x (evens_mem hx2)) HY.out.1 hxk
    subst e
    obtain ⟨i2,hi2,hi3⟩:=List.getElem_of_mem hx
    rw [List.length_take] at hi2
    rw [List.getElem_take] at hi3
    obtain ⟨hj1,hj2⟩:=List.getElem?_eq_some_iff.1 HE.out.2
    have:=(List.getElem_inj (h₀:=by omega) (h₁:=hj1) hn).1 (hi3.trans hj2.symm)
    omega)
   clear hin
   go_wp2_with fail
   go_ret
   exact ⟨⟨true,rfl,by simp [HIN2.out]⟩,HB2.out.1⟩
  ·have hlk:=hlk.2 hin
   obtain ⟨w3,hup,hset3,hgr⟩:=HB2.out.2.put HKZ.out hin (by rw [List.length_map,List.length_take];have:=HE.out.1;have:=HEL.out;have:=HNB.out;unfold maxLen;omega)
   have HS3:=zH (And.intro hset3 (And.intro hgr hin))
   clear hset3 hgr hin
   go_wp2_with fail
   have htk:((evens l).take (j+1)).map keyB = ((evens l).take j).map keyB ++ [keyB y]:=by
    rw [List.take_add_one,HE.out.2,Option.toList_some,List.map_append];rfl
   go_roundw
   case rel =>
    refine ⟨j+1,i+2,by have:=HS.out.2.2.2.1;omega,HE.out.1,by go_num,by rw [htk];exact HS3.out.1,?_,HB2.out.1.grown HS3.out.2.1 HB2.out.1.size (fun q hq=>by cases hq;exact Nat.le_of_eq HB0.out.1)⟩
    rw [htk,List.nodup_append]
    refine ⟨HS.out.2.1,by simp,fun a ha b hb e=>?_⟩
    simp only [List.mem_cons,List.not_mem_nil,or_false] at hb
    subst hb e
    exact HS3.out.2.2 ha
   case measure=>have:=HIN.out;simp [intOf];omega
 have HEN:=zH (show (evens l).Nodup by
  have h1:=HS.out.2.1
  have h2:=HS.out.2.2.2
  have h3:=HEL.out
  rw [List.take_of_length_le (by omega)] at h1
  exact List.Pairwise.of_map keyB (fun a b h e=>h (congrArg keyB e)) h1)
 go_wp2_with fail
 go_ret
 exact ⟨⟨false,rfl,by simp [HEN.out]⟩,HS.out.2.2.1⟩
end Go.Proofs.YtnnnfhobbnjmfaaGreatDoor
