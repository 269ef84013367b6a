/-
  Lemmas on the codec. Conditions: as each says.
-/
import Derived.Test.YtnnnfhobbnjmfaaGreatDoorWn38
import Derived.Test.YtnnnfhobbnjmfaaGreatDoorWn32
import Derived.Test.YtnnnfhobbnjmfaaGreatDoorWn20
import Derived.OwnWalk
namespace Go.Proofs.YtnnnfhobbnjmfaaGreatDoor
open Go.RowKit Go.Proofs.Tryz
set_option linter.all false
set_option maxHeartbeats 40000000
set_option maxRecDepth 20000

attribute [local go_sem] Oper.semAt_some

structure Fy (w wk:World) (y:Nat):Prop where
 blw:Below w.heap.size w wk
 res:wk.heap[y]? = some (.cells zR 25 (0,0))
 hy:w.heap.size <= y
theorem Fy.start (w:World):Fy w (w.alloc (.cells zR 25)) w.heap.size :=
 ⟨(Below.refl _ _).alloc (Nat.le_refl _) _,zN _ _,Nat.le_refl _⟩
section
variable {w wk w2:World} {y:Nat} {A:V × Int × Int}
theorem Fy.lt (h:Fy w wk y):y < wk.heap.size:=(gl h.res)
theorem Fy.next (h:Fy w wk y) (hb:Below wk.heap.size wk w2):Fy w w2 y:=⟨h.blw.trans (hb.mono h.blw.size),(hb.block y h.lt).trans h.res,h.hy⟩
theorem Fy.row (h:Fy w wk y) (cs:Array Value):(wk.setRow y cs).heap[y]? = some (.cells cs 25 (0,0)):=setRow_heap wk y _ cs _ _ h.res
theorem Fy.end (h:Fy w wk y) (cs:Array Value):Below w.heap.size w (wk.setRow y cs):=below_setRow h.blw h.hy _
theorem RTo.zeroY (h:Fy w wk y) (pl ec:Int) (hA:A = (zeroV,pl,ec)):RTo w A (.returned (.tuple #[.agg zR,.int .i64 pl,.int .i64 ec])) (wk.setRow y zR):=by
 subst hA
 exact ⟨_,fun _=>False,rfl,VO.nil _ _ zero_wf rfl,h.end _⟩
theorem RTo.valY (h:Fy w wk y) {v:V} {s:Value} {F:Nat -> Prop} {B:Nat} (hv:VO wk B v s F) (hB:w.heap.size <= B) (hy:∀ b,F b -> b ≠ y) (pl ec:Int) (hA:A = (v,pl,ec)) :
  RTo w A (.returned (.tuple #[.agg #[.int .i64 v.kind,.int .u64 v.num,.string v.text,s,.int .i64 v.elem],.int .i64 pl,.int .i64 ec])) (wk.setRow y #[.int .i64 v.kind,.int .u64 v.num,.string v.text,s,.int .i64 v.elem]):=by
 subst hA
 exact ⟨_,F,rfl,(hv.keep (fun b hb=>setRow_other wk y b _ (hy b hb))).mono hB,h.end _⟩
end
theorem results_rdec (tmps:Array Value) (w:World) (x:Nat) (cs:Array Value) (hx:tmps.getD 4 undef = .pointer (some ⟨x,0,none⟩)) (rx:w.heap[x]? = some (.cells cs 25 (0,0))) (hs:cs.size = 5) :
  (results Tryz.f40 tmps).run prog w = .ok (.tuple #[.agg cs,tmps.getD 5 undef,tmps.getD 6 undef]) w:=by
 have hx':tmps[4]?.getD undef = .pointer (some ⟨x,0,none⟩):=by simpa using hx
 have h1:=run_loadVar_row (P:=prog) w x 25 25 cs (0,0) _ rx underlying25 rfl (by rw [hs];as_aux_lemma=>kernel_rfl)
 simp [results,results40,hx',asAddr,h1]
theorem results_rwhole (tmps:Array Value) (w:World) (x:Nat) (cs:Array Value) (hx:tmps.getD 2 undef = .pointer (some ⟨x,0,none⟩)) (rx:w.heap[x]? = some (.cells cs 25 (0,0))) (hs:cs.size = 5) :
  (results Tryz.f26 tmps).run prog w = .ok (.tuple #[.agg cs,tmps.getD 3 undef,tmps.getD 4 undef]) w:=by
 have hx':tmps[2]?.getD undef = .pointer (some ⟨x,0,none⟩):=by simpa using hx
 have h1:=run_loadVar_row (P:=prog) w x 25 25 cs (0,0) _ rx underlying25 rfl (by rw [hs];as_aux_lemma=>kernel_rfl)
 simp [results,results26,hx',asAddr,h1]
theorem rdec_neg (w:World) (p:Option Addr) (n cp:Nat) (B:List UInt8) (at_:Int) (h0:at_ < 0) :
  Calls prog 40 #[.slice p n cp,.int .i64 at_] w fun e w'=>RTo w (zeroV,0,1) e w':=by
 go_enter func40,ntmps40
 go_upto_region 1 with fail
 have hf0:Fy w (w.alloc (.cells zR 25)) w.heap.size:=Fy.start w
 generalize (w.alloc (.cells zR 25)) = w0 at *
 obtain ⟨y,hy⟩:∃ y,w.heap.size = y:=⟨_,rfl⟩
 rw [hy] at hf0 ⊢
 have HF0:=zH hf0
 clear hf0 hy
 go_wp2_with (refine stV (.tmp 4) (.tmp 18) rfl rfl rfl rfl rfl (HF0.out.res) rfl ?_)
 refine bodyPost_ret (results_rdec _ _ y zR rfl (HF0.out.row _) rfl) rfl ?_
 exact RTo.zeroY HF0.out _ _ rfl
theorem rdec_far (w:World) (p:Option Addr) (n cp:Nat) (B:List UInt8) (at_:Int) (h0:¬ at_ < 0) (h1:(n:Int) < at_) :
  Calls prog 40 #[.slice p n cp,.int .i64 at_] w fun e w'=>RTo w (zeroV,0,1) e w':=by
 go_enter func40,ntmps40
 go_upto_region 1 with fail
 have hf0:Fy w (w.alloc (.cells zR 25)) w.heap.size:=Fy.start w
 generalize (w.alloc (.cells zR 25)) = w0 at *
 obtain ⟨y,hy⟩:∃ y,w.heap.size = y:=⟨_,rfl⟩
 rw [hy] at hf0 ⊢
 have HF0:=zH hf0
 clear hf0 hy
 go_wp2_with (refine stV (.tmp 4) (.tmp 18) rfl rfl rfl rfl rfl (HF0.out.res) rfl ?_)
 refine bodyPost_ret (results_rdec _ _ y zR rfl (HF0.out.row _) rfl) rfl ?_
 exact RTo.zeroY HF0.out _ _ rfl
theorem mrg_rdec_err (w:World) (p:Option Addr) (n cp:Nat) (B:List UInt8) (a:Nat) (ha:a <= n):(∀ (pl ec:Int) (hne:ec ≠ 0) (hcal:∀ W,Below w.heap.size w W -> Calls prog 59 #[.agg #[.slice p n cp,.int .i64 (n:Nat),.int .i64 (-1)],.int .i64 (a:Nat),.int .i64 1] W fun e w'=>RTo W (zeroV,pl,ec) e w'),Calls prog 40 #[.slice p n cp,.int .i64 (a:Nat)] w fun e w'=>RTo w (zeroV,pl,ec) e w') ∧
  (∀ (hn9:n <= 140737488355328) (v:V) (k:Nat) (hk:a+k <= n) (hl:1048576 < k) (hcal:∀ W,Below w.heap.size w W -> Calls prog 59 #[.agg #[.slice p n cp,.int .i64 (n:Nat),.int .i64 (-1)],.int .i64 (a:Nat),.int .i64 1] W fun e w'=>RTo W (v,((a+k:Nat):Int),0) e w'),Calls prog 40 #[.slice p n cp,.int .i64 (a:Nat)] w fun e w'=>RTo w (zeroV,(a:Nat),2) e w') ∧
  (∀ (hn9:n <= 140737488355328) (v:V) (k:Nat) (hk:a+k <= n) (hl:¬ 1048576 < k) (hcal:∀ W,Below w.heap.size w W -> Calls prog 59 #[.agg #[.slice p n cp,.int .i64 (n:Nat),.int .i64 (-1)],.int .i64 (a:Nat),.int .i64 1] W fun e w'=>RTo W (v,((a+k:Nat):Int),0) e w'),Calls prog 40 #[.slice p n cp,.int .i64 (a:Nat)] w fun e w'=>RTo w (v,((a+k:Nat):Int),0) e w'):=by
 refine ⟨?_,?_,?_⟩
 intro pl ec hne hcal
 rotate_left
 intro hn9 v k hk hl hcal
 rotate_left
 intro hn9 v k hk hl hcal
 rotate_left
 all_goals
  have ha0:¬ (a:Int) < 0:=by omega
  have ha1:¬ (n:Int) < (a:Nat):=by omega
 have hn1:(ec == 0) = false:=by simpa using hne
 have hn2:(ec != 0) = true:=by simpa using hne
 clear hne
 have HC:=zH hcal
 clear hcal ha
 rotate_left
 obtain ⟨a2,ha2⟩:∃ a2,a+k = a2:=⟨_,rfl⟩
 rw [ha2] at hcal
 have hdf:IntKind.i64.wrap ((a2:Int) - (a:Nat)) = ((k:Nat):Int):=by rw [IntWalk.i64_in _ (by omega)];omega
 have HC:=zH hcal
 have hl2:(1048576:Int) < (k:Nat):=by omega
 clear hcal ha hl ha2 hk hn9
 rotate_left
 obtain ⟨a2,ha2⟩:∃ a2,a+k = a2:=⟨_,rfl⟩
 rw [ha2] at hcal
 have hdf:IntKind.i64.wrap ((a2:Int) - (a:Nat)) = ((k:Nat):Int):=by rw [IntWalk.i64_in _ (by omega)];omega
 have HC:=zH hcal
 rw [ha2]
 have hl2:¬ (1048576:Int) < (k:Nat):=by omega
 clear hcal ha hl ha2 hk hn9
 rotate_left
 all_goals
  go_enter func40,ntmps40
  go_upto_region 1 with fail
  have hf0:Fy w (w.alloc (.cells zR 25)) w.heap.size:=Fy.start w
  generalize (w.alloc (.cells zR 25)) = w0 at *
  obtain ⟨y,hy⟩:∃ y,w.heap.size = y:=⟨_,rfl⟩
  rw [hy] at hf0 ⊢
  have HF0:=zH hf0
  clear hf0 hy
  go_wp2_with fail
  refine (HC.out w0 HF0.out.blw).mono ?_
  rintro e w1 ⟨sx,Fx,rfl,hvx,hb1⟩
  try dsimp only at hvx ⊢
  obtain ⟨qs,ds,hst,_,_⟩:=hvx.slice
  subst hst
  have HF1:=zH (HF0.out.next hb1)
  go_upto_region 4 with (refine stV (.tmp 7) (.tmp 26) rfl rfl rfl rfl rfl (zN w1 _) rfl ?_)
  refine layW w1 ?_
  intro w2 hb2 ou
  obtain ⟨u,hu⟩:∃ u,w1.heap.size = u:=⟨_,rfl⟩
  have HF2:=zH (HF1.out.next hb2)
  have HV2:=zH (And.intro (hvx.blw hb2) (And.intro hb1.size (And.intro (hu ▸ ou) (And.intro hu HF0.out.lt))))
  rw [hu]
  clear hb2 ou hu hvx hb1
 ·go_wp2_with (refine stV (.tmp 4) (.tmp 31) rfl rfl rfl rfl rfl (HF2.out.res) rfl ?_)
  refine bodyPost_ret (results_rdec _ _ y zR rfl (HF2.out.row _) rfl) rfl ?_
  exact RTo.zeroY HF2.out _ _ rfl
 ·go_wp2_with (refine stV (.tmp 4) (.tmp 38) rfl rfl rfl rfl rfl (HF2.out.res) rfl ?_)
  refine bodyPost_ret (results_rdec _ _ y zR rfl (HF2.out.row _) rfl) rfl ?_
  exact RTo.zeroY HF2.out _ _ rfl
 obtain ⟨u0,u1,u2,u3,u4⟩:=c5 HV2.out.2.2.1
 go_wp2_with (refine stV (.tmp 4) (.tmp 40) rfl rfl rfl rfl rfl (HF2.out.res) rfl ?_)
 refine bodyPost_ret (results_rdec _ _ y #[.int .i64 v.kind,.int .u64 v.num,.string v.text,.slice qs v.list.length ds,.int .i64 v.elem] rfl (HF2.out.row _) rfl) rfl ?_
 have k1:=HV2.out.2.1
 have k2:=HV2.out.2.2.2.1
 have k3:=HV2.out.2.2.2.2
 have k4:=HF0.out.blw.size
 exact RTo.valY HF2.out HV2.out.1 (by omega) (fun b hb=>by have:=(HV2.out.1.lt b hb).1;omega) _ _ rfl
def rdec_err:=fun w p n cp B a ha=>(mrg_rdec_err w p n cp B a ha).1
def rdec_long:=fun w p n cp B a ha=>(mrg_rdec_err w p n cp B a ha).2.1
def rdec_ok:=fun w p n cp B a ha=>(mrg_rdec_err w p n cp B a ha).2.2
theorem rdecode_any (w:World) (p:Option Addr) (n cp:Nat) (B:List UInt8) (hB:BytesIn w p n cp B) (hT:Tabs w) (hn:n <= 140737488355328) (at_:Int) :
  Calls prog 40 #[.slice p n cp,.int .i64 at_] w fun e w'=>RTo w (decS B at_) e w':=by
 have hl:=hB.len
 unfold decS
 by_cases h0:at_ < 0
 ·rw [if_pos (.inl h0)]
  exact rdec_neg w p n cp B at_ h0
 by_cases h1:(n:Int) < at_
 ·rw [if_pos (.inr (by rw [hl];exact h1))]
  exact rdec_far w p n cp B at_ h0 h1
 rw [if_neg (by rw [hl];omega)]
 obtain ⟨a,rfl⟩:∃ a:Nat,at_ = (a:Nat):=⟨at_.toNat,by omega⟩
 have ha:a <= n:=by omega
 have hso:sOf B a n = B.drop a:=by unfold sOf;rw [List.take_of_length_le (by rw [List.length_drop];omega)]
 have hcal:∀ W,Below w.heap.size w W -> Calls prog 59 #[.agg #[.slice p n cp,.int .i64 (n:Nat),.int .i64 (-1)],.int .i64 (a:Nat),.int .i64 1] W fun e w'=>RTo W (ansR n (-1) (a:Nat) a (rdV 32 (B.drop a))) e w':=fun W hW=>by
  have q:=(rlevels p n cp B 32 (Nat.le_refl _)).1 W a n (-1) (a:Nat) ⟨hB.below hW,hT.below hW,ha,Nat.le_refl _,hn⟩
  rw [hso] at q
  exact q
 rw [Int.toNat_natCast]
 obtain ⟨A1,hA1⟩:∃ A1,rdV 32 (B.drop a) = A1:=⟨_,rfl⟩
 rw [hA1] at hcal ⊢
 cases A1 with
 | error y =>
  have hne:=erC_ne (-1) y
  have q:=rdec_err w p n cp B a ha _ _ hne hcal
  cases y with
  | short =>
   have h1:shP n (-1) = n:=by unfold shP;rw [if_pos (by decide)]
   have h2:shC (-1) = 10:=by unfold shC;rw [if_pos (by decide)]
   have e1:(zeroV,erP n (-1) (a:Nat) a .short,erC (-1) .short) = (zeroV,((B.length:Nat):Int),(10:Int)):=by
    show (zeroV,shP n (-1),shC (-1)) = _
    rw [h1,h2,hl]
   rw [e1] at q
   exact q
  | own e=>exact q
  | pl r e=>exact q
 | ok vk =>
  obtain ⟨v,k⟩:=vk
  have hkl:=rdV_le _ _ _ _ hA1
  rw [List.length_drop,hl] at hkl
  simp only
  by_cases hk:1048576 < k
  ·rw [if_pos hk]
   exact rdec_long w p n cp B a ha hn v k (by omega) hk hcal
  ·rw [if_neg hk]
   exact rdec_ok w p n cp B a ha hn v k (by omega) hk hcal
theorem mrg_rwhole_err (w:World) (p:Option Addr) (n cp:Nat) (B:List UInt8):(∀ (pl ec:Int) (hne:ec ≠ 0) (v:V) (hcal:∀ W,Below w.heap.size w W -> Calls prog 40 #[.slice p n cp,.int .i64 0] W fun e w'=>RTo W (v,pl,ec) e w'),Calls prog 26 #[.slice p n cp] w fun e w'=>RTo w (zeroV,pl,ec) e w') ∧
  (∀ (pl:Int) (v:V) (hp:pl < (n:Int)) (hcal:∀ W,Below w.heap.size w W -> Calls prog 40 #[.slice p n cp,.int .i64 0] W fun e w'=>RTo W (v,pl,0) e w'),Calls prog 26 #[.slice p n cp] w fun e w'=>RTo w (zeroV,pl,35) e w') ∧
  (∀ (pl:Int) (v:V) (hp:¬ pl < (n:Int)) (hcal:∀ W,Below w.heap.size w W -> Calls prog 40 #[.slice p n cp,.int .i64 0] W fun e w'=>RTo W (v,pl,0) e w'),Calls prog 26 #[.slice p n cp] w fun e w'=>RTo w (v,0,0) e w'):=by
 refine ⟨?_,?_,?_⟩
 intro pl ec hne v hcal
 have hn1:(ec == 0) = false:=by simpa using hne
 have hn2:(ec != 0) = true:=by simpa using hne
 clear hne
 rotate_left
 intro pl v hp hcal
 rotate_left
 intro pl v hp hcal
 rotate_left
 all_goals
  have HC:=zH hcal
  clear hcal
  go_enter func26,ntmps26
  go_upto_region 1 with fail
  have hf0:Fy w (w.alloc (.cells zR 25)) w.heap.size:=Fy.start w
  generalize (w.alloc (.cells zR 25)) = w0 at *
  obtain ⟨y,hy⟩:∃ y,w.heap.size = y:=⟨_,rfl⟩
  rw [hy] at hf0 ⊢
  have HF0:=zH hf0
  clear hf0 hy
  go_wp2_with fail
  refine (HC.out w0 HF0.out.blw).mono ?_
  rintro e w1 ⟨sx,Fx,rfl,hvx,hb1⟩
  try dsimp only at hvx ⊢
  obtain ⟨qs,ds,hst,_,_⟩:=hvx.slice
  subst hst
  have HF1:=zH (HF0.out.next hb1)
  go_upto_region 2 with (refine stV (.tmp 5) (.tmp 11) rfl rfl rfl rfl rfl (zN w1 _) rfl ?_)
  refine layW w1 ?_
  intro w2 hb2 ou
  obtain ⟨u,hu⟩:∃ u,w1.heap.size = u:=⟨_,rfl⟩
  have HF2:=zH (HF1.out.next hb2)
  have HV2:=zH (And.intro (hvx.blw hb2) (And.intro hb1.size (And.intro (hu ▸ ou) (And.intro hu HF0.out.lt))))
  rw [hu]
  clear hb2 ou hu hvx hb1
 ·go_wp2_with (refine stV (.tmp 2) (.tmp 16) rfl rfl rfl rfl rfl (HF2.out.res) rfl ?_)
  refine bodyPost_ret (results_rwhole _ _ y zR rfl (HF2.out.row _) rfl) rfl ?_
  exact RTo.zeroY HF2.out _ _ rfl
 ·go_wp2_with (refine stV (.tmp 2) (.tmp 23) rfl rfl rfl rfl rfl (HF2.out.res) rfl ?_)
  refine bodyPost_ret (results_rwhole _ _ y zR rfl (HF2.out.row _) rfl) rfl ?_
  exact RTo.zeroY HF2.out _ _ rfl
 obtain ⟨u0,u1,u2,u3,u4⟩:=c5 HV2.out.2.2.1
 go_wp2_with (refine stV (.tmp 2) (.tmp 25) rfl rfl rfl rfl rfl (HF2.out.res) rfl ?_)
 refine bodyPost_ret (results_rwhole _ _ y #[.int .i64 v.kind,.int .u64 v.num,.string v.text,.slice qs v.list.length ds,.int .i64 v.elem] rfl (HF2.out.row _) rfl) rfl ?_
 have k1:=HV2.out.2.1
 have k2:=HV2.out.2.2.2.1
 have k3:=HV2.out.2.2.2.2
 have k4:=HF0.out.blw.size
 exact RTo.valY HF2.out HV2.out.1 (by omega) (fun b hb=>by have:=(HV2.out.1.lt b hb).1;omega) _ _ rfl
def rwhole_err:=fun w p n cp B=>(mrg_rwhole_err w p n cp B).1
def rwhole_plain:=fun w p n cp B=>(mrg_rwhole_err w p n cp B).2.1
def rwhole_ok:=fun w p n cp B=>(mrg_rwhole_err w p n cp B).2.2
theorem rwhole_any (w:World) (p:Option Addr) (n cp:Nat) (B:List UInt8) (hB:BytesIn w p n cp B) (hT:Tabs w) (hn:n <= 140737488355328) :
  Calls prog 26 #[.slice p n cp] w fun e w'=>RTo w (wholeS B) e w':=by
 have hl:=hB.len
 have hcal:∀ W,Below w.heap.size w W -> Calls prog 40 #[.slice p n cp,.int .i64 0] W fun e w'=>RTo W (decS B 0) e w':=fun W hW=>rdecode_any W p n cp B (hB.below hW) (hT.below hW) hn 0
 unfold wholeS
 obtain ⟨⟨v,pl,ec⟩,hA⟩:∃ A,decS B 0 = A:=⟨_,rfl⟩
 rw [hA] at hcal ⊢
 simp only
 by_cases he:ec = 0
 ·subst he
  rw [if_neg (by simp),hl]
  by_cases hp:pl < (n:Int)
  ·rw [if_pos hp]
   exact rwhole_plain w p n cp B pl v hp hcal
  ·rw [if_neg hp]
   exact rwhole_ok w p n cp B pl v hp hcal
 rw [if_pos he]
 exact rwhole_err w p n cp B pl ec he v hcal

attribute [local go_sem] Oper.semAt_some

theorem decode_any (w:World) (p:Option Addr) (n cp:Nat) (B:List UInt8) (hB:BytesIn w p n cp B) (hT:Tabs w) (hn:n <= 140737488355328) (at_:Int):Calls prog 18 #[.slice p n cp,.int .i64 at_] w fun e w'=>DecTo w B at_ e w':=by
 by_cases h0:at_ < 0
 ·exact decode_neg w p n cp B hB at_ h0
 by_cases h1:(n:Int) < at_
 ·exact decode_far w p n cp B hB at_ h0 h1
 obtain ⟨a,rfl⟩:∃ a:Nat,at_ = a:=⟨at_.toNat,by omega⟩
 exact decode_in w p n cp B hB hT hn a (by omega)
theorem results_whole (tmps:Array Value) (w:World) (x:Nat) (cs:Array Value) (hx:tmps.getD 2 undef = .pointer (some ⟨x,0,none⟩)) (rx:w.heap[x]? = some (.cells cs 25 (0,0))) (hs:cs.size = 5) :
  (results Tryz.f24 tmps).run prog w = .ok (.tuple #[.agg cs,tmps.getD 3 undef,tmps.getD 4 undef]) w:=by
 have hx':tmps[2]?.getD undef = .pointer (some ⟨x,0,none⟩):=by simpa using hx
 have h1:=run_loadVar_row (P:=prog) w x 25 25 cs (0,0) _ rx underlying25 rfl (by rw [hs];as_aux_lemma=>kernel_rfl)
 simp [results,results24,hx',asAddr,h1]
def WholeTo (w:World) (B:List UInt8) (e:Ending) (w':World):Prop :=
 ∃ s F,e = .returned (.tuple #[.agg #[.int .i64 (wholeS B).1.kind,.int .u64 (wholeS B).1.num,.string (wholeS B).1.text,s,.int .i64 (wholeS B).1.elem],.int .i64 (wholeS B).2.1,.int .i64 (wholeS B).2.2])∧VO w' w.heap.size (wholeS B).1 s F∧Below w.heap.size w w'
theorem whole_any (w:World) (p:Option Addr) (n cp:Nat) (B:List UInt8) (hB:BytesIn w p n cp B) (hT:Tabs w) (hn:n <= 140737488355328):Calls prog 24 #[.slice p n cp] w fun e w'=>WholeTo w B e w':=by
 have hc:=fun W (hb:Below w.heap.size w W)=>decode_any W p n cp B (hB.below hb) (hT.below hb) hn 0
 have HC:=zH hc
 have HL:=zH hB.len
 clear hc hB hT hn
 go_enter func24,ntmps24
 go_upto_region 1 with fail
 have hb0:Below w.heap.size w (w.alloc (.cells zR 25)):=(Below.refl _ _).alloc (Nat.le_refl _) _
 have oy:((w.alloc (.cells zR 25))).heap[w.heap.size]? = some (.cells zR 25 (0,0)):=zN _ _
 generalize (w.alloc (.cells zR 25)) = w0 at *
 obtain ⟨y,hy⟩:∃ y,w.heap.size = y:=⟨_,rfl⟩
 rw [hy] at oy ⊢
 have HB0:=zH (And.intro hb0 (And.intro hy oy))
 clear hb0 hy oy
 go_wp2_with fail
 refine (HC.out w0 HB0.out.1).mono ?_
 rintro e w1 ⟨s,F,rfl,hvo,hb1⟩
 obtain ⟨D,hD⟩:∃ D,decS B 0 = D:=⟨_,rfl⟩
 rw [hD] at hvo ⊢
 obtain ⟨v,pl,ec⟩:=D
 simp only at hvo ⊢
 obtain ⟨ps,cs,hss,_,_⟩:=hvo.slice
 subst hss
 have HD:=zH hD
 have H1:=zH (And.intro hvo (And.intro hb1 ((hb1.block y (gl HB0.out.2.2)).trans HB0.out.2.2)))
 clear hvo hb1 hD
 go_upto_region 2 with (refine stV (.tmp 5) (.tmp 11) rfl rfl rfl rfl rfl (zN _ _) rfl ?_)
 refine layW w1 ?_
 intro w3 hb2 oz
 obtain ⟨z,hz⟩:∃ z,w1.heap.size = z:=⟨_,rfl⟩
 rw [hz] at oz ⊢
 have hyz:=(gl H1.out.2.2)
 have H3:=zH (show Below w.heap.size w w3∧w3.heap[y]? = some (.cells zR 25 (0,0))∧w3.heap[z]? = some (.cells #[.int .i64 v.kind,.int .u64 v.num,.string v.text,.slice ps v.list.length cs,.int .i64 v.elem] 25 (0,0))∧VO w3 w.heap.size v (.slice ps v.list.length cs) F∧y < z∧(∀ j,F j -> j ≠ y) from
  ⟨(HB0.out.1.trans (H1.out.2.1.mono HB0.out.1.size)).trans (hb2.mono (Nat.le_trans HB0.out.1.size H1.out.2.1.size)),(hb2.block y hyz).trans H1.out.2.2,oz,(H1.out.1.mono HB0.out.1.size).blw hb2,by omega,fun j hj e=>by have h1:=(H1.out.1.lt j hj).1;have h2:=(gl HB0.out.2.2);omega⟩)
 clear hb2 oz hz hyz
 by_cases he:ec = 0
 ·subst he
  by_cases hp:pl < n
  ·have hw:wholeS B = (zeroV,pl,35):=by unfold wholeS;rw [HD.out,if_neg (by simp),if_pos (by show pl < (B.length:Int);rw [HL.out];exact hp)]
   have HW:=zH hw
   have d1:decide (pl < (n:Int)) = true:=decide_eq_true hp
   clear hw hp
   go_wp2_with (refine stV (.tmp 2) (.tmp 25) rfl rfl rfl rfl rfl H3.out.2.1 rfl ?_)
   have hh:=setRow_heap w3 y _ zR _ _ H3.out.2.1
   refine bodyPost_ret (results_whole _ _ y zR rfl hh rfl) rfl ?_
   unfold WholeTo
   rw [HW.out]
   exact ⟨_,fun _=>False,rfl,VO.nil _ _ zero_wf rfl,below_setRow H3.out.1 (by have:=HB0.out.2.1;omega) _⟩
  ·have hw:wholeS B = (v,0,0):=by unfold wholeS;rw [HD.out,if_neg (by simp),if_neg (by show ¬ pl < (B.length:Int);rw [HL.out];exact hp)]
   have HW:=zH hw
   have d1:decide (pl < (n:Int)) = false:=decide_eq_false hp
   obtain ⟨x0,x1,x2,x3,x4⟩:=c5 H3.out.2.2.1
   clear hw hp
   go_wp2_with (refine stV (.tmp 2) (.tmp 27) rfl rfl rfl rfl rfl H3.out.2.1 rfl ?_)
   have hh:=setRow_heap w3 y _ #[.int .i64 v.kind,.int .u64 v.num,.string v.text,.slice ps v.list.length cs,.int .i64 v.elem] _ _ H3.out.2.1
   refine bodyPost_ret (results_whole _ _ y #[.int .i64 v.kind,.int .u64 v.num,.string v.text,.slice ps v.list.length cs,.int .i64 v.elem] rfl hh rfl) rfl ?_
   unfold WholeTo
   rw [HW.out]
   exact ⟨_,F,rfl,H3.out.2.2.2.1.keep (fun j hj=>setRow_other w3 y j _ (H3.out.2.2.2.2.2 j hj)),below_setRow H3.out.1 (by have:=HB0.out.2.1;omega) _⟩
 have hw:wholeS B = (zeroV,pl,ec):=by unfold wholeS;rw [HD.out,if_pos he]
 have HW:=zH hw
 have d1:(ec != 0) = true:=by simp [he]
 clear hw he
 go_wp2_with (refine stV (.tmp 2) (.tmp 17) rfl rfl rfl rfl rfl H3.out.2.1 rfl ?_)
 have hh:=setRow_heap w3 y _ zR _ _ H3.out.2.1
 refine bodyPost_ret (results_whole _ _ y zR rfl hh rfl) rfl ?_
 unfold WholeTo
 rw [HW.out]
 exact ⟨_,fun _=>False,rfl,VO.nil _ _ zero_wf rfl,below_setRow H3.out.1 (by have:=HB0.out.2.1;omega) _⟩
theorem shortest_any (w:World) (p:Option Addr) (n cp:Nat) (B:List UInt8) (hB:BytesIn w p n cp B) (hT:Tabs w) (hn:n <= 140737488355328):Calls prog 25 #[.slice p n cp] w fun e w'=>e = .returned (.bool (shortestS B))∧Below w.heap.size w w':=by
 have HC:=zH (whole_any w p n cp B hB hT hn)
 have HB:=zH (And.intro hB (And.intro hT hn))
 clear hB hT hn
 go_enter func25,ntmps25
 go_wp2_with fail
 refine HC.out.mono ?_
 rintro e w1 ⟨s,F,rfl,hvo,hb1⟩
 obtain ⟨D,hD⟩:∃ D,wholeS B = D:=⟨_,rfl⟩
 rw [hD] at hvo ⊢
 obtain ⟨v,pl,ec⟩:=D
 simp only at hvo ⊢
 obtain ⟨ps,cs,hss,_,_⟩:=hvo.slice
 subst hss
 have HD:=zH hD
 have H1:=zH (And.intro hvo hb1)
 clear hvo hb1 hD
 go_upto_region 2 with (refine stV (.tmp 3) (.tmp 10) rfl rfl rfl rfl rfl (zN _ _) rfl ?_)
 refine layW w1 ?_
 intro w3 hb2 oz
 obtain ⟨z,hz⟩:∃ z,w1.heap.size = z:=⟨_,rfl⟩
 rw [hz] at oz ⊢
 have H3:=zH (And.intro (H1.out.2.trans (hb2.mono H1.out.2.size)) (And.intro oz (H1.out.1.blw hb2)))
 clear hb2 oz hz
 by_cases he:ec = 0
 ·subst he
  have hwt:v.wt <= 2000000:=by
   have hd:(decS B 0).2.2 = 0∧(decS B 0).1 = v:=by
    have h1:=HD.out
    unfold wholeS at h1
    by_cases c1:(decS B 0).2.2 ≠ 0
    ·rw [if_pos c1] at h1
     exact absurd (congrArg (fun x=>x.2.2) h1) c1
    rw [if_neg c1] at h1
    by_cases c2:(decS B 0).2.1 < B.length
    ·rw [if_pos c2] at h1
     exact absurd (congrArg (fun x=>x.2.2) h1) (by show ¬ ((35:Int) = 0);decide)
    rw [if_neg c2] at h1
    exact ⟨Classical.byContradiction c1,congrArg (fun x=>x.1) h1⟩
   obtain ⟨n1,k,_,_,_,hk,_,_,hg⟩:=decS_good (by rw [HB.out.1.len];have:=HB.out.2.2;unfold maxLen;omega) hd.1
   have:=hg.wt
   rw [hd.2] at this
   omega
  have hen:=encode_any v w3 _ H3.out.2.2.vin (HB.out.2.1.below H3.out.1) hwt
  have HE:=zH hen
  obtain ⟨x0,x1,x2,x3,x4⟩:=c5 H3.out.2.1
  clear hen hwt
  go_wp2_with fail
  refine HE.out.mono ?_
  rintro e w4 ⟨u,rfl,hou,hb4⟩
  obtain ⟨pu,cu,hu,_⟩:=hou.bytes
  subst hu
  obtain ⟨E,hE⟩:∃ E,encS v = E:=⟨_,rfl⟩
  rw [hE] at hou ⊢
  obtain ⟨el,ee⟩:=E
  simp only at hou ⊢
  have hc1:(convert 28 9 (.slice pu el.length cu)).run prog w4 = .ok (.string ⟨el.toArray⟩) w4:=run_string_bytes w4 _ _ 5 underlying28 underlying5 underlying9 _ _ _ _ hou.sl.2
  have hc2:(convert 28 9 (.slice p n cp)).run prog w4 = .ok (.string ⟨B.toArray⟩) w4:=run_string_bytes w4 _ _ 5 underlying28 underlying5 underlying9 _ _ _ _ (HB.out.1.below (H3.out.1.trans (hb4.mono H3.out.1.size)))
  have HB4:=zH (H3.out.1.trans (hb4.mono H3.out.1.size))
  have hsh:shortestS B = decide (ee = 0∧el = B):=by unfold shortestS;rw [HD.out,if_neg (by simp)];simp only;rw [hE]
  have HS:=zH hsh
  clear hou hb4 x0 x1 x2 x3 x4 hE hsh
  by_cases h0:ee = 0
  ·subst h0
   by_cases h1:el = B
   ·subst h1
    have hS2:=HS.out
    rw [decide_eq_true (And.intro rfl rfl)] at hS2
    have HS2:=zH hS2
    clear hS2
    have hq:((⟨el.toArray⟩:ByteArray).toList == (⟨el.toArray⟩:ByteArray).toList) = true:=by simp
    go_wp2_with fail
    go_ret
    rw [HS2.out]
    exact ⟨rfl,HB4.out⟩
   ·have hS2:=HS.out
    rw [decide_eq_false (fun q=>h1 q.2)] at hS2
    have HS2:=zH hS2
    have hq:((⟨el.toArray⟩:ByteArray).toList == (⟨B.toArray⟩:ByteArray).toList) = false:=by
     rw [teq]
     exact decide_eq_false (fun q=>h1 (by injection q with q;simpa using congrArg Array.toList q))
    clear hS2 h1
    obtain ⟨TA,hTA⟩:∃ TA:ByteArray,⟨el.toArray⟩ = TA:=⟨_,rfl⟩
    obtain ⟨TB,hTB⟩:∃ TB:ByteArray,⟨B.toArray⟩ = TB:=⟨_,rfl⟩
    rw [hTA,hTB] at hq
    rw [hTA] at hc1
    rw [hTB] at hc2
    clear hTA hTB
    go_wp2_with fail
    go_ret
    rw [HS2.out]
    exact ⟨rfl,HB4.out⟩
  ·have hS2:=HS.out
   rw [decide_eq_false (fun q=>h0 q.1)] at hS2
   have HS2:=zH hS2
   have d0:(ee == 0) = false:=by simp [h0]
   clear hS2 h0
   go_wp2_with fail
   go_ret
   rw [HS2.out]
   exact ⟨rfl,HB4.out⟩
 have hw:shortestS B = false:=by unfold shortestS;rw [HD.out,if_pos he]
 have HW:=zH hw
 have d1:(ec != 0) = true:=by simp [he]
 clear hw he
 go_wp2_with fail
 go_ret
 rw [HW.out]
 exact ⟨rfl,H3.out.1⟩

attribute [local go_sem] Oper.semAt_some

theorem rshortest_any (w:World) (p:Option Addr) (n cp:Nat) (B:List UInt8) (hB:BytesIn w p n cp B) (hT:Tabs w) (hn:n ≤ 140737488355328):Calls Tryz.prog 28 #[.slice p n cp] w fun e w'=>e = .returned (.bool (shortestS B))∧Below w.heap.size w w':=by
 have HC:=Lib.hid (rwhole_any w p n cp B hB hT hn)
 have HB:=Lib.hid (And.intro hB (And.intro hT hn))
 clear hB hT hn
 go_enter Tryz.func28,Tryz.ntmps28
 go_wp2_with fail
 refine HC.out.mono ?_
 rintro e w1 ⟨s,F,rfl,hvo,hb1⟩
 obtain ⟨D,hD⟩:∃ D,wholeS B = D:=⟨_,rfl⟩
 rw [hD] at hvo ⊢
 obtain ⟨v,pl,ec⟩:=D
 simp only at hvo ⊢
 obtain ⟨ps,cs,hss,_,_⟩:=hvo.slice
 subst hss
 have HD:=Lib.hid hD
 have H1:=Lib.hid (And.intro hvo hb1)
 clear hvo hb1 hD
 go_upto_region 2 with (refine stV (.tmp 3) (.tmp 11) rfl rfl rfl rfl rfl (_root_.Go.heap_alloc_new _ _) rfl ?_)
 refine layW w1 ?_
 intro w3 hb2 oz
 obtain ⟨z,hz⟩:∃ z,w1.heap.size = z:=⟨_,rfl⟩
 rw [hz] at oz ⊢
 have H3:=Lib.hid (And.intro (H1.out.2.trans (hb2.mono H1.out.2.size)) (And.intro oz (H1.out.1.blw hb2)))
 clear hb2 oz hz
 by_cases he:ec = 0
 ·subst he
  have hwt:v.wt ≤ 2000000:=by
   have hd:(decS B 0).2.2 = 0∧(decS B 0).1 = v:=by
    have h1:=HD.out
    unfold wholeS at h1
    by_cases c1:(decS B 0).2.2 ≠ 0
    ·rw [if_pos c1] at h1
     exact absurd (congrArg (fun x=>x.2.2) h1) c1
    rw [if_neg c1] at h1
    by_cases c2:(decS B 0).2.1 < B.length
    ·rw [if_pos c2] at h1
     exact absurd (congrArg (fun x=>x.2.2) h1) (by show ¬ ((35:Int) = 0);decide)
    rw [if_neg c2] at h1
    exact ⟨Classical.byContradiction c1,congrArg (fun x=>x.1) h1⟩
   obtain ⟨n1,k,_,_,_,hk,_,_,hg⟩:=decS_good (by rw [HB.out.1.len];have:=HB.out.2.2;unfold maxLen;omega) hd.1
   have:=hg.wt
   rw [hd.2] at this
   omega
  have hen:=rencode_any v w3 _ H3.out.2.2.vin (HB.out.2.1.below H3.out.1) hwt
  have HE:=Lib.hid hen
  obtain ⟨x0,x1,x2,x3,x4⟩:=c5 H3.out.2.1
  clear hen hwt
  go_wp2_with fail
  refine HE.out.mono ?_
  rintro e w4 ⟨u,rfl,hou,hb4⟩
  obtain ⟨pu,cu,hu,_⟩:=hou.bytes
  subst hu
  obtain ⟨E,hE⟩:∃ E,encS v = E:=⟨_,rfl⟩
  rw [hE] at hou ⊢
  obtain ⟨el,ee⟩:=E
  simp only at hou ⊢
  have hc1:(convert 28 9 (.slice pu el.length cu)).run Tryz.prog w4 = .ok (.string ⟨el.toArray⟩) w4:=run_string_bytes w4 _ _ 5 Tryz.underlying28 Tryz.underlying5 Tryz.underlying9 _ _ _ _ hou.sl.2
  have hc2:(convert 28 9 (.slice p n cp)).run Tryz.prog w4 = .ok (.string ⟨B.toArray⟩) w4:=run_string_bytes w4 _ _ 5 Tryz.underlying28 Tryz.underlying5 Tryz.underlying9 _ _ _ _ (HB.out.1.below (H3.out.1.trans (hb4.mono H3.out.1.size)))
  have HB4:=Lib.hid (H3.out.1.trans (hb4.mono H3.out.1.size))
  have hsh:shortestS B = decide (ee = 0∧el = B):=by unfold shortestS;rw [HD.out,if_neg (by simp)];simp only;rw [hE]
  have HS:=Lib.hid hsh
  clear hou hb4 x0 x1 x2 x3 x4 hE hsh
  by_cases h0:ee = 0
  ·subst h0
   by_cases h1:el = B
   ·subst h1
    have hS2:=HS.out
    rw [decide_eq_true (And.intro rfl rfl)] at hS2
    have HS2:=Lib.hid hS2
    clear hS2
    have hq:((⟨el.toArray⟩:ByteArray).toList == (⟨el.toArray⟩:ByteArray).toList) = true:=by simp
    go_wp2_with fail
    go_ret
    rw [HS2.out]
    exact ⟨rfl,HB4.out⟩
   ·have hS2:=HS.out
    rw [decide_eq_false (fun q=>h1 q.2)] at hS2
    have HS2:=Lib.hid hS2
    have hq:((⟨B.toArray⟩:ByteArray).toList == (⟨el.toArray⟩:ByteArray).toList) = false:=by
     rw [teq]
     exact decide_eq_false (fun q=>h1 (by injection q with q;simpa using (congrArg Array.toList q).symm))
    clear hS2 h1
    obtain ⟨TA,hTA⟩:∃ TA:ByteArray,⟨el.toArray⟩ = TA:=⟨_,rfl⟩
    obtain ⟨TB,hTB⟩:∃ TB:ByteArray,⟨B.toArray⟩ = TB:=⟨_,rfl⟩
    rw [hTA,hTB] at hq
    rw [hTA] at hc1
    rw [hTB] at hc2
    clear hTA hTB
    go_wp2_with fail
    go_ret
    rw [HS2.out]
    exact ⟨rfl,HB4.out⟩
  ·have hS2:=HS.out
   rw [decide_eq_false (fun q=>h0 q.1)] at hS2
   have HS2:=Lib.hid hS2
   have d0:(ee == 0) = false:=by simp [h0]
   clear hS2 h0
   go_wp2_with fail
   go_ret
   rw [HS2.out]
   exact ⟨rfl,HB4.out⟩
 have hw:shortestS B = false:=by unfold shortestS;rw [HD.out,if_pos he]
 have HW:=Lib.hid hw
 have d1:(ec != 0) = true:=by simp [he]
 clear hw he
 go_wp2_with fail
 go_ret
 rw [HW.out]
 exact ⟨rfl,H3.out.1⟩

def awA:V:=.mk 1 1 ⟨#[]⟩ [] 0
def awB:V:=.mk 4 1 ⟨#[]⟩ [] 0
def aw:V:=.mk 21 0 ⟨#[]⟩ [awA,awB] 0
theorem aw_pre:aw.pre 1 = [(1,aw),(2,awA),(2,awB)]:=by simp [aw,awA,awB,V.pre,pres]
theorem aw_check:firstBad (aw.pre 1) = 0:=by
 rw [aw_pre]
 simp [firstBad,aloneC,aw,awA,awB,V.kind,V.num,V.text,V.list,V.elem,extraV,hasN,hasT,hasP,numOk,textOk]
theorem aw_put:putV aw = [0xc0,4,2,0x41,0x52,1]:=by kernel_rfl
theorem aw_enc:encS aw = ([0xc0,4,2,0x41,0x52,1],0):=by
 unfold encS
 rw [aw_check,if_neg (by decide),aw_put,if_neg (by decide)]
theorem aw_dec:decS [0x40,0x56,1] 1 = (.mk 1 1 ⟨#[]⟩ [] 0,3,0):=by kernel_rfl
theorem aw_dec2:decS [0x40,0x40] 0 = (zeroV,1,0):=by kernel_rfl
theorem aw_whole:wholeS [0x40,0x40] = (zeroV,1,35):=by
 unfold wholeS
 rw [aw_dec2,if_neg (by decide),if_pos (by decide)]
def awC:V:=.mk 4 255 ⟨#[]⟩ [] 0
theorem awC_check:firstBad (awC.pre 1) = 0:=by
 simp [V.pre,pres,firstBad,aloneC,awC,V.kind,V.num,V.text,V.list,V.elem,extraV,hasN,hasT,hasP,numOk,textOk]
theorem awC_put:putV awC = [0x52,0xff]:=by kernel_rfl
theorem awC_enc:encS awC = ([0x52,0xff],0):=by
 unfold encS
 rw [awC_check,if_neg (by decide),awC_put,if_neg (by decide)]
theorem aw_dec3:decS [0x52,0xff] 0 = (awC,2,0):=by kernel_rfl
theorem aw_dec4:decS [0x70,0,0,0,0xff] 0 = (awC,5,0):=by kernel_rfl
theorem aw_short:shortestS [0x52,0xff] = true:=by
 have hw:wholeS [0x52,0xff] = (awC,0,0):=by unfold wholeS;rw [aw_dec3,if_neg (by decide),if_neg (by decide)]
 unfold shortestS
 rw [hw,if_neg (by decide)]
 simp only
 rw [awC_enc]
 decide
theorem aw_long:shortestS [0x70,0,0,0,0xff] = false:=by
 have hw:wholeS [0x70,0,0,0,0xff] = (awC,0,0):=by unfold wholeS;rw [aw_dec4,if_neg (by decide),if_neg (by decide)]
 unfold shortestS
 rw [hw,if_neg (by decide)]
 simp only
 rw [awC_enc]
 decide

attribute [local go_sem] Oper.semAt_some

theorem own_litL (w:World) (B:Nat) (l:List UInt8) (hl:l.length <= maxLen) (hB:B <= w.heap.size) (cs:Array Value) (hc:cs = (l.map byteV).toArray) (n:Nat) (hn:n = l.length):OwnBytes (w.alloc (.cells cs 5)) B 5 (.slice (some ⟨w.heap.size,0,none⟩) n n) l:=by
 subst hc hn
 exact ⟨⟨by simp,.inr ⟨w.heap.size,l.length,_,rfl,hB,zN w _,Nat.le_refl _,hl,by simp,by simp;exact List.take_of_length_le (by simp)⟩⟩⟩
theorem wpList_build2 {ops:Array Oper} {rest:List Oper} {o:Oper} {a:Act} {w:World} {Q:Exit -> Act -> World -> Prop} (hg:o.guard = none) (x y:Operand) (ho:o.op = .buildSlice 23 2 #[(0,x),(1,y)]) (a0 a1 a2 a3 a4 b0 b1 b2 b3 b4:Value)
  (hx:a.eval x = .agg #[a0,a1,a2,a3,a4]) (hy:a.eval y = .agg #[b0,b1,b2,b3,b4])
  (h:wpList prog ops Q rest (a.put o.dst (.slice (some ⟨w.heap.size,0,none⟩) 2 2)) (w.alloc (.cells #[a0,a1,a2,a3,a4,b0,b1,b2,b3,b4] 25))):wpList prog ops Q (o :: rest) a w :=
 wpList_plain hg fun _ hK=>wp_build2 o.dst rfl x y ho a0 a1 a2 a3 a4 b0 b1 b2 b3 b4 hx hy (hK _ _ h)
theorem aw_wf:aw.Wf:=⟨by constructor <;> decide,by constructor <;> decide,by decide,by constructor <;> decide⟩
theorem awA_wf:awA.Wf:=⟨by constructor <;> decide,by constructor <;> decide,by decide,by constructor <;> decide⟩
theorem awB_wf:awB.Wf:=⟨by constructor <;> decide,by constructor <;> decide,by decide,by constructor <;> decide⟩
theorem awake_any (w:World) (hT:Tabs w):Calls prog 6 #[] w fun e w'=>e = .returned (.bool true)∧Below w.heap.size w w':=by
 have HT:=zH hT
 clear hT
 go_enter func6,ntmps6
 go_upto_region 2 with (first
  | refine wpList_build2 rfl (.tmp 14) (.tmp 15) rfl _ _ _ _ _ _ _ _ _ _ rfl rfl ?_
  | refine stV (.tmp 1) (.tmp 17) rfl rfl rfl rfl rfl (by rw [show w.heap.size+1 = (w.alloc (.cells #[.int .i64 1,.int .u64 1,.string ⟨#[]⟩,.slice none 0 0,.int .i64 0,.int .i64 4,.int .u64 1,.string ⟨#[]⟩,.slice none 0 0,.int .i64 0] 25)).heap.size by simp];exact zN _ _) rfl ?_)
 have hz1:(w.alloc (.cells #[.int .i64 1,.int .u64 1,.string ⟨#[]⟩,.slice none 0 0,.int .i64 0,.int .i64 4,.int .u64 1,.string ⟨#[]⟩,.slice none 0 0,.int .i64 0] 25)).heap.size = w.heap.size+1:=by simp
 have hb1:Below w.heap.size w (((w.alloc (.cells #[.int .i64 1,.int .u64 1,.string ⟨#[]⟩,.slice none 0 0,.int .i64 0,.int .i64 4,.int .u64 1,.string ⟨#[]⟩,.slice none 0 0,.int .i64 0] 25)).alloc (.cells zR 25)).setRow (w.heap.size+1) #[.int .i64 21,.int .u64 0,.string ⟨#[]⟩,.slice (some ⟨w.heap.size,0,none⟩) 2 2,.int .i64 0]):=below_setRow ((((Below.refl w.heap.size w).alloc (Nat.le_refl _) _)).alloc (by rw [hz1];omega) _) (by omega) _
 have o1:((w.alloc (.cells #[.int .i64 1,.int .u64 1,.string ⟨#[]⟩,.slice none 0 0,.int .i64 0,.int .i64 4,.int .u64 1,.string ⟨#[]⟩,.slice none 0 0,.int .i64 0] 25)).alloc (.cells zR 25)).heap[w.heap.size+1]? = some (.cells zR 25 (0,0)):=by rw [← hz1];exact zN _ _
 have ox:=setRow_heap ((w.alloc (.cells #[.int .i64 1,.int .u64 1,.string ⟨#[]⟩,.slice none 0 0,.int .i64 0,.int .i64 4,.int .u64 1,.string ⟨#[]⟩,.slice none 0 0,.int .i64 0] 25)).alloc (.cells zR 25)) (w.heap.size+1) _ #[.int .i64 21,.int .u64 0,.string ⟨#[]⟩,.slice (some ⟨w.heap.size,0,none⟩) 2 2,.int .i64 0] _ _ o1
 have og:(((w.alloc (.cells #[.int .i64 1,.int .u64 1,.string ⟨#[]⟩,.slice none 0 0,.int .i64 0,.int .i64 4,.int .u64 1,.string ⟨#[]⟩,.slice none 0 0,.int .i64 0] 25)).alloc (.cells zR 25)).setRow (w.heap.size+1) #[.int .i64 21,.int .u64 0,.string ⟨#[]⟩,.slice (some ⟨w.heap.size,0,none⟩) 2 2,.int .i64 0]).heap[w.heap.size]? = some (.cells #[.int .i64 1,.int .u64 1,.string ⟨#[]⟩,.slice none 0 0,.int .i64 0,.int .i64 4,.int .u64 1,.string ⟨#[]⟩,.slice none 0 0,.int .i64 0] 25 (0,0)):=(setRow_other _ (w.heap.size+1) w.heap.size _ (by omega)).trans ((hao (w.alloc (.cells #[.int .i64 1,.int .u64 1,.string ⟨#[]⟩,.slice none 0 0,.int .i64 0,.int .i64 4,.int .u64 1,.string ⟨#[]⟩,.slice none 0 0,.int .i64 0] 25)) (.cells zR 25) (by rw [hz1];omega)).trans (zN _ _))
 change Code.wp _ _ _ _ (((w.alloc (.cells #[.int .i64 1,.int .u64 1,.string ⟨#[]⟩,.slice none 0 0,.int .i64 0,.int .i64 4,.int .u64 1,.string ⟨#[]⟩,.slice none 0 0,.int .i64 0] 25)).alloc (.cells zR 25)).setRow (w.heap.size+1) #[.int .i64 21,.int .u64 0,.string ⟨#[]⟩,.slice (some ⟨w.heap.size,0,none⟩) 2 2,.int .i64 0])
 generalize (((w.alloc (.cells #[.int .i64 1,.int .u64 1,.string ⟨#[]⟩,.slice none 0 0,.int .i64 0,.int .i64 4,.int .u64 1,.string ⟨#[]⟩,.slice none 0 0,.int .i64 0] 25)).alloc (.cells zR 25)).setRow (w.heap.size+1) #[.int .i64 21,.int .u64 0,.string ⟨#[]⟩,.slice (some ⟨w.heap.size,0,none⟩) 2 2,.int .i64 0]) = w1 at *
 obtain ⟨g,hg⟩:∃ g,w.heap.size = g:=⟨_,rfl⟩
 rw [hg] at ox og ⊢
 have hvo:=(VO.pair (w:=w1) (B:=g) (a:=awA) (b:=awB) (s:=.slice none 0 0) (t:=.slice none 0 0) og (VO.nil w1 g awA_wf rfl) (VO.nil w1 g awB_wf rfl) (fun _ h _=>h.elim) (fun h=>h.elim) (fun h=>h.elim) (Nat.le_refl _)).as (v':=aw) rfl aw_wf
 have HV:=zH hvo.vin
 have H1:=zH (And.intro hb1 ox)
 have HW:=zH (show aw.wt <= 2000000 by
  have:aw.wt = 3:=by kernel_rfl
  omega)
 clear hz1 hb1 o1 ox og hg hvo
 obtain ⟨x0,x1,x2,x3,x4⟩:=c5 H1.out.2
 go_wp2_with fail
 refine (encode_any aw w1 _ HV.out (HT.out.below H1.out.1) HW.out).mono ?_
 rintro e w2 ⟨u,rfl,hou,hb2⟩
 rw [aw_enc] at hou ⊢
 simp only at hou ⊢
 obtain ⟨pu,cu,hu,_⟩:=hou.bytes
 subst hu
 have y0:=bs_cellV hb2 x0
 have y1:=bs_cellV hb2 x1
 have y2:=bs_cellV hb2 x2
 have y3:=bs_cellV hb2 x3
 have y4:=bs_cellV hb2 x4
 have HU:=zH hou
 have H2:=zH (And.intro (H1.out.1.trans (hb2.mono H1.out.1.size)) hb2)
 clear x0 x1 x2 x3 x4 hou hb2
 go_wp2_with fail
 refine (length_any aw w2 _ (HV.out.blw H2.out.2) (HT.out.below H2.out.1) HW.out).mono ?_
 rintro e w3 ⟨rfl,hb3⟩
 rw [aw_enc]
 have H3:=zH (And.intro (H2.out.1.trans (hb3.mono H2.out.1.size)) (HU.out.of_below hb3))
 clear y0 y1 y2 y3 y4 hb3
 go_wp2_with fail
 have hla:=own_litL w3 w3.heap.size [64,86,1] (by decide) (Nat.le_refl _) #[.int .u8 64,.int .u8 86,.int .u8 1] rfl 3 rfl
 have hbla:Below w3.heap.size w3 (w3.alloc (.cells #[.int .u8 64,.int .u8 86,.int .u8 1] 5)):=(Below.refl _ _).alloc (Nat.le_refl _) _
 change Calls _ _ _ (w3.alloc (.cells #[.int .u8 64,.int .u8 86,.int .u8 1] 5)) _
 generalize w3.alloc (.cells #[.int .u8 64,.int .u8 86,.int .u8 1] 5) = wla at *
 have HLa:=zH (And.intro (H3.out.1.trans (hbla.mono H3.out.1.size)) (And.intro hla hbla))
 clear hla hbla
 refine (decode_any wla _ 3 3 [64,86,1] HLa.out.2.1.sl.2 (HT.out.below HLa.out.1) (by omega) 1).mono ?_
 rintro e w4 ⟨s6,F6,rfl,hvo6,hb4⟩
 have hd4:decS [64,86,1] 1 = (.mk 1 1 ⟨#[]⟩ [] 0,3,0):=aw_dec
 rw [hd4] at hvo6 ⊢
 simp only at hvo6 ⊢
 obtain ⟨p6,c6,hs6,_,_⟩:=hvo6.slice
 subst hs6
 have H4:=zH (And.intro (HLa.out.1.trans (hb4.mono HLa.out.1.size)) ((H3.out.2.of_below HLa.out.2.2).of_below hb4))
 clear hd4 hvo6 hb4
 go_upto_region 5 with (refine stV (.tmp 6) (.tmp 31) rfl rfl rfl rfl rfl (zN _ _) rfl ?_)
 refine layW w4 ?_
 intro w5 hb5 o6
 obtain ⟨x6,hx6⟩:∃ x6,w4.heap.size = x6:=⟨_,rfl⟩
 rw [hx6] at o6 ⊢
 have H5:=zH (And.intro (H4.out.1.trans (hb5.mono H4.out.1.size)) (And.intro (H4.out.2.of_below hb5) o6))
 clear hb5 o6 hx6
 go_wp2_with fail
 have hlb:=own_litL w5 w5.heap.size [64,64] (by decide) (Nat.le_refl _) #[.int .u8 64,.int .u8 64] rfl 2 rfl
 have hblb:Below w5.heap.size w5 (w5.alloc (.cells #[.int .u8 64,.int .u8 64] 5)):=(Below.refl _ _).alloc (Nat.le_refl _) _
 change Calls _ _ _ (w5.alloc (.cells #[.int .u8 64,.int .u8 64] 5)) _
 generalize w5.alloc (.cells #[.int .u8 64,.int .u8 64] 5) = wlb at *
 have HLb:=zH (And.intro (H5.out.1.trans (hblb.mono H5.out.1.size)) (And.intro hlb hblb))
 clear hlb hblb
 refine (whole_any wlb _ 2 2 [64,64] HLb.out.2.1.sl.2 (HT.out.below HLb.out.1) (by omega)).mono ?_
 rintro e w6 ⟨s9,F9,rfl,hvo9,hb6⟩
 have hd6:wholeS [64,64] = (zeroV,1,35):=aw_whole
 rw [hd6] at hvo9 ⊢
 simp only at hvo9 ⊢
 obtain ⟨p9,c9,hs9,_,_⟩:=hvo9.slice
 subst hs9
 have hbb6:=HLb.out.2.2.trans (hb6.mono HLb.out.2.2.size)
 have H6:=zH (And.intro (H5.out.1.trans (hbb6.mono H5.out.1.size)) (And.intro (H5.out.2.1.of_below hbb6) ((hbb6.block x6 (gl H5.out.2.2)).trans H5.out.2.2)))
 clear hd6 hvo9 hb6 hbb6
 go_upto_region 6 with (refine stV (.tmp 9) (.tmp 37) rfl rfl rfl rfl rfl (zN _ _) rfl ?_)
 have hb7:Below w6.heap.size w6 ((w6.alloc (.cells zR 25)).setRow w6.heap.size #[.int .i64 zeroV.kind,.int .u64 zeroV.num,.string zeroV.text,.slice p9 zeroV.list.length c9,.int .i64 zeroV.elem]):=below_setRow ((Below.refl _ _).alloc (Nat.le_refl _) _) (Nat.le_refl _) _
 change Code.wp _ _ _ _ ((w6.alloc (.cells zR 25)).setRow w6.heap.size #[.int .i64 zeroV.kind,.int .u64 zeroV.num,.string zeroV.text,.slice p9 zeroV.list.length c9,.int .i64 zeroV.elem])
 generalize ((w6.alloc (.cells zR 25)).setRow w6.heap.size #[.int .i64 zeroV.kind,.int .u64 zeroV.num,.string zeroV.text,.slice p9 zeroV.list.length c9,.int .i64 zeroV.elem]) = w7 at *
 have H7:=zH (And.intro (H6.out.1.trans (hb7.mono H6.out.1.size)) (And.intro (H6.out.2.1.of_below hb7) ((hb7.block x6 (gl H6.out.2.2)).trans H6.out.2.2)))
 clear hb7
 go_wp2_with fail
 have hlc:=own_litL w7 w7.heap.size [82,255] (by decide) (Nat.le_refl _) #[.int .u8 82,.int .u8 255] rfl 2 rfl
 have hblc:Below w7.heap.size w7 (w7.alloc (.cells #[.int .u8 82,.int .u8 255] 5)):=(Below.refl _ _).alloc (Nat.le_refl _) _
 change Calls _ _ _ (w7.alloc (.cells #[.int .u8 82,.int .u8 255] 5)) _
 generalize w7.alloc (.cells #[.int .u8 82,.int .u8 255] 5) = wlc at *
 have HLc:=zH (And.intro (H7.out.1.trans (hblc.mono H7.out.1.size)) (And.intro hlc hblc))
 clear hlc hblc
 refine (shortest_any wlc _ 2 2 [82,255] HLc.out.2.1.sl.2 (HT.out.below HLc.out.1) (by omega)).mono ?_
 rintro e w8 ⟨rfl,hb8⟩
 have hd8:shortestS [82,255] = true:=aw_short
 rw [hd8]
 have hbb8:=HLc.out.2.2.trans (hb8.mono HLc.out.2.2.size)
 have H8:=zH (And.intro (H7.out.1.trans (hbb8.mono H7.out.1.size)) (And.intro (H7.out.2.1.of_below hbb8) ((hbb8.block x6 (gl H7.out.2.2)).trans H7.out.2.2)))
 clear hd8 hb8 hbb8
 go_wp2_with fail
 have hld:=own_litL w8 w8.heap.size [112,0,0,0,255] (by decide) (Nat.le_refl _) #[.int .u8 112,.int .u8 0,.int .u8 0,.int .u8 0,.int .u8 255] rfl 5 rfl
 have hbld:Below w8.heap.size w8 (w8.alloc (.cells #[.int .u8 112,.int .u8 0,.int .u8 0,.int .u8 0,.int .u8 255] 5)):=(Below.refl _ _).alloc (Nat.le_refl _) _
 change Calls _ _ _ (w8.alloc (.cells #[.int .u8 112,.int .u8 0,.int .u8 0,.int .u8 0,.int .u8 255] 5)) _
 generalize w8.alloc (.cells #[.int .u8 112,.int .u8 0,.int .u8 0,.int .u8 0,.int .u8 255] 5) = wld at *
 have HLd:=zH (And.intro (H8.out.1.trans (hbld.mono H8.out.1.size)) (And.intro hld hbld))
 clear hld hbld
 refine (shortest_any wld _ 5 5 [112,0,0,0,255] HLd.out.2.1.sl.2 (HT.out.below HLd.out.1) (by omega)).mono ?_
 rintro e w9 ⟨rfl,hb9⟩
 have hd9:shortestS [112,0,0,0,255] = false:=aw_long
 rw [hd9]
 have hbb9:=HLd.out.2.2.trans (hb9.mono HLd.out.2.2.size)
 have ou:=H8.out.2.1.of_below hbb9
 have o6:=(hbb9.block x6 (gl H8.out.2.2)).trans H8.out.2.2
 have HB9:=zH (H8.out.1.trans (hbb9.mono H8.out.1.size))
 have hcv:(convert 28 9 (.slice pu 6 cu)).run prog w9 = .ok (.string ⟨#[192,4,2,65,82,1]⟩) w9:=run_string_bytes w9 _ _ 5 underlying28 underlying5 underlying9 _ _ _ _ ou.sl.2
 have v0:w9.cell? ⟨x6,0,none⟩ = some (.int .i64 1):=(cell_of_row _ _ 0 _ _ _ o6).trans rfl
 have v1:w9.cell? ⟨x6,1,none⟩ = some (.int .u64 1):=(cell_of_row _ _ 1 _ _ _ o6).trans rfl
 clear hd9 hb9 hbb9 ou o6
 go_wp2_with fail
 go_ret
 exact ⟨rfl,HB9.out⟩

attribute [local go_sem] Oper.semAt_some

structure PLent (a:V) (wr:World) (B b k:Nat) (c:Nat -> List Value) (ss:Nat -> Value) (Fs:Nat -> Nat -> Prop):Prop where
 hc:∀ i,(c i).length = 5
 hrow:RowF wr B b (a.list.length+3) c
 h1:∀ i (h:i < a.list.length),i < k -> c i = vcells a.list[i] (ss i)
 h2:∀ i,a.list.length <= i -> i < k -> c i = vcells (mkV i) nilS
 hin:∀ i (h:i < a.list.length),i < k -> VL wr B a.list[i] (ss i) (Fs i)
 hd:∀ i j,i < a.list.length -> j < a.list.length -> i < k -> j < k -> i ≠ j -> ∀ g,Fs i g -> ¬ Fs j g
 hs:∀ i,i < a.list.length -> i < k -> ¬ Fs i b
theorem PLent.done {a:V} {wr:World} {B b:Nat} {c:Nat -> List Value} {ss:Nat -> Value} {Fs:Nat -> Nat -> Prop} (h:PLent a wr B b (a.list.length+3) c ss Fs) (hw:a.Wf):∃ F,VL wr B a (.slice (some ⟨b,0,none⟩) a.list.length (a.list.length+3)) F :=
 ⟨_,.mk a b _ c ss Fs hw h.hc h.hrow (fun i hi=>h.h1 i hi (by omega)) (fun i q1 q2=>h.h2 i q1 q2) (fun i hi=>h.hin i hi (by omega)) (fun i j hi hj=>h.hd i j hi hj (by omega) (by omega)) (fun i hi=>h.hs i hi (by omega)) (fun g=>Iff.rfl)⟩
theorem PLent.below {a:V} {wr w2:World} {B b k:Nat} {c:Nat -> List Value} {ss:Nat -> Value} {Fs:Nat -> Nat -> Prop} (h:PLent a wr B b k c ss Fs) (hb:Below wr.heap.size wr w2):PLent a w2 B b k c ss Fs :=
 ⟨h.hc,h.hrow.keep (hb.block _ h.hrow.lt.2),h.h1,h.h2,fun i hi hik=>(h.hin i hi hik).blw hb,h.hd,h.hs⟩
theorem PLent.next {a:V} {wr:World} {B b k:Nat} {c:Nat -> List Value} {ss:Nat -> Value} {Fs:Nat -> Nat -> Prop} (h:PLent a wr B b k (updF c k (vcells (mkV k) nilS)) ss Fs) (hk:a.list.length <= k):PLent a wr B b (k+1) (updF c k (vcells (mkV k) nilS)) ss Fs :=
 ⟨h.hc,h.hrow,fun i hi hik=>h.h1 i hi (by omega),fun i hi hik=>by
  by_cases e:i = k
  ·subst e;exact updF_same _ _ _
  ·exact h.h2 i hi (by omega),fun i hi hik=>h.hin i hi (by omega),fun i j hi hj hik hjk=>h.hd i j hi hj (by omega) (by omega),fun i hi hik=>h.hs i hi (by omega)⟩
theorem PLent.put {a:V} {wr:World} {B b k B2:Nat} {c:Nat -> List Value} {ss:Nat -> Value} {Fs:Nat -> Nat -> Prop} {t:Value} {F2:Nat -> Prop} (h:PLent a wr B b k c ss Fs) (hk:k < a.list.length) (hx:VL wr B a.list[k] t F2) (hdj:∀ g,F2 g -> B2 <= g) (hold:∀ i,i < a.list.length -> i < k -> ∀ g,Fs i g -> g < B2) (hb2:b < B2) :
  PLent a (wr.setCells b (k * 5) (vcells a.list[k] t)) B b (k+1) (updF c k (vcells a.list[k] t)) (fun i=>if i = k then t else ss i) (fun i=>if i = k then F2 else Fs i):=by
 have g:=setCells_grown wr b (k * 5) (vcells a.list[k] t)
 have hbF:∀ q,F2 q -> q ≠ b:=fun q hq e=>by have:=hdj q hq;omega
 refine ⟨updF_len h.hc rfl,h.hrow.set h.hc (by omega) rfl,fun i hi hik=>?_,fun i hi hik=>by rw [updF_other (by omega)];exact h.h2 i hi (by omega),fun i hi hik=>?_,fun i j hi hj hik hjk hij q hq=>?_,fun i hi hik=>?_⟩
 ·by_cases e:i = k
  ·subst e;rw [updF_same,if_pos rfl]
  ·rw [updF_other e,if_neg e];exact h.h1 i hi (by omega)
 ·by_cases e:i = k
  ·subst e
   simp only [if_pos]
   exact hx.keep (fun q hq=>g.block q (hx.lt q hq).2 (fun e=>hbF q hq (Option.some.inj e)))
  ·simp only [if_neg e]
   exact (h.hin i hi (by omega)).keep (fun q hq=>g.block q ((h.hin i hi (by omega)).lt q hq).2 (fun e=>h.hs i hi (by omega) (by rw [← Option.some.inj e];exact hq)))
 ·by_cases e:i = k
  ·rw [if_pos e] at hq
   rw [if_neg (by omega)]
   intro q2
   have h1:=hdj q hq
   have h2:=hold j hj (by omega) q q2
   omega
  ·rw [if_neg e] at hq
   by_cases e2:j = k
   ·rw [if_pos e2]
    intro q2
    have h1:=hdj q q2
    have h2:=hold i hi (by omega) q hq
    omega
   ·rw [if_neg e2]
    exact h.hd i j hi hj (by omega) (by omega) hij q hq
 ·by_cases e:i = k
  ·rw [if_pos e];exact fun q=>hbF _ q rfl
  ·rw [if_neg e];exact h.hs i hi (by omega)

end Go.Proofs.YtnnnfhobbnjmfaaGreatDoor
