/-
  Lemmas on the codec. Conditions: as each says.
-/
import Derived.Test.YtnnnfhobbnjmfaaGreatDoorWn36
import Derived.Test.YtnnnfhobbnjmfaaGreatDoorWn37
namespace Go.Proofs.YtnnnfhobbnjmfaaGreatDoor
open Go.RowKit Go.Proofs.Tryz
set_option linter.all false
set_option maxHeartbeats 40000000
set_option maxRecDepth 20000

attribute [local go_sem] Oper.semAt_some

theorem results_rdata (tmps:Array Value) (w:World) (x:Nat) (cs:Array Value) (hx:tmps.getD 10 undef = .pointer (some ⟨x,0,none⟩)) (rx:w.heap[x]? = some (.cells cs 25 (0,0))) (hs:cs.size = 5) :
  (results Tryz.f88 tmps).run prog w = .ok (.tuple #[.agg cs,tmps.getD 11 undef,tmps.getD 12 undef]) w:=by
 have hx':tmps[10]?.getD undef = .pointer (some ⟨x,0,none⟩):=by simpa using hx
 have h1:=run_loadVar_row (P:=prog) w x 25 25 cs (0,0) _ rx underlying25 rfl (by rw [hs];as_aux_lemma=>kernel_rfl)
 simp [results,results88,hx',asAddr,h1]
theorem results_rpair (tmps:Array Value) (w:World) (x:Nat) (cs:Array Value) (hx:tmps.getD 6 undef = .pointer (some ⟨x,0,none⟩)) (rx:w.heap[x]? = some (.cells cs 25 (0,0))) (hs:cs.size = 5) :
  (results Tryz.f87 tmps).run prog w = .ok (.tuple #[.agg cs,tmps.getD 7 undef,tmps.getD 8 undef]) w:=by
 have hx':tmps[6]?.getD undef = .pointer (some ⟨x,0,none⟩):=by simpa using hx
 have h1:=run_loadVar_row (P:=prog) w x 25 25 cs (0,0) _ rx underlying25 rfl (by rw [hs];as_aux_lemma=>kernel_rfl)
 simp [results,results87,hx',asAddr,h1]
theorem results_rread (tmps:Array Value) (w:World) (x:Nat) (cs:Array Value) (hx:tmps.getD 6 undef = .pointer (some ⟨x,0,none⟩)) (rx:w.heap[x]? = some (.cells cs 25 (0,0))) (hs:cs.size = 5) :
  (results Tryz.f59 tmps).run prog w = .ok (.tuple #[.agg cs,tmps.getD 7 undef,tmps.getD 8 undef]) w:=by
 have hx':tmps[6]?.getD undef = .pointer (some ⟨x,0,none⟩):=by simpa using hx
 have h1:=run_loadVar_row (P:=prog) w x 25 25 cs (0,0) _ rx underlying25 rfl (by rw [hs];as_aux_lemma=>kernel_rfl)
 simp [results,results59,hx',asAddr,h1]
theorem mrg_rdata_160 (w:World) (p:Option Addr) (n cp at_ en:Nat) (sz:Int) (B:List UInt8) (h:PIn w p n cp at_ en B) (own d:Int) (v:V) (pl ec:Int):(∀ (hcal:∀ W,PIn W p n cp at_ en B -> Calls prog 112 #[.agg #[.slice p n cp,.int .i64 (en:Nat),.int .i64 sz],.int .i64 160,.int .i64 (at_:Nat)] W fun e w'=>RTo W (v,pl,ec) e w'),Calls prog 88 #[.agg #[.slice p n cp,.int .i64 (en:Nat),.int .i64 sz],.int .i64 160,.int .i64 (at_:Nat),.int .i64 own,.int .i64 d] w fun e w'=>RTo w (v,pl,ec) e w') ∧
  (∀ (hcal:∀ W,PIn W p n cp at_ en B -> Calls prog 112 #[.agg #[.slice p n cp,.int .i64 (en:Nat),.int .i64 sz],.int .i64 161,.int .i64 (at_:Nat)] W fun e w'=>RTo W (v,pl,ec) e w'),Calls prog 88 #[.agg #[.slice p n cp,.int .i64 (en:Nat),.int .i64 sz],.int .i64 161,.int .i64 (at_:Nat),.int .i64 own,.int .i64 d] w fun e w'=>RTo w (v,pl,ec) e w') ∧
  (∀ (hcal:∀ W,PIn W p n cp at_ en B -> Calls prog 112 #[.agg #[.slice p n cp,.int .i64 (en:Nat),.int .i64 sz],.int .i64 163,.int .i64 (at_:Nat)] W fun e w'=>RTo W (v,pl,ec) e w'),Calls prog 88 #[.agg #[.slice p n cp,.int .i64 (en:Nat),.int .i64 sz],.int .i64 163,.int .i64 (at_:Nat),.int .i64 own,.int .i64 d] w fun e w'=>RTo w (v,pl,ec) e w') ∧
  (∀ (hcal:∀ W,PIn W p n cp at_ en B -> Calls prog 112 #[.agg #[.slice p n cp,.int .i64 (en:Nat),.int .i64 sz],.int .i64 176,.int .i64 (at_:Nat)] W fun e w'=>RTo W (v,pl,ec) e w'),Calls prog 88 #[.agg #[.slice p n cp,.int .i64 (en:Nat),.int .i64 sz],.int .i64 176,.int .i64 (at_:Nat),.int .i64 own,.int .i64 d] w fun e w'=>RTo w (v,pl,ec) e w') ∧
  (∀ (hcal:∀ W,PIn W p n cp at_ en B -> Calls prog 112 #[.agg #[.slice p n cp,.int .i64 (en:Nat),.int .i64 sz],.int .i64 177,.int .i64 (at_:Nat)] W fun e w'=>RTo W (v,pl,ec) e w'),Calls prog 88 #[.agg #[.slice p n cp,.int .i64 (en:Nat),.int .i64 sz],.int .i64 177,.int .i64 (at_:Nat),.int .i64 own,.int .i64 d] w fun e w'=>RTo w (v,pl,ec) e w') ∧
  (∀ (hcal:∀ W,PIn W p n cp at_ en B -> Calls prog 112 #[.agg #[.slice p n cp,.int .i64 (en:Nat),.int .i64 sz],.int .i64 179,.int .i64 (at_:Nat)] W fun e w'=>RTo W (v,pl,ec) e w'),Calls prog 88 #[.agg #[.slice p n cp,.int .i64 (en:Nat),.int .i64 sz],.int .i64 179,.int .i64 (at_:Nat),.int .i64 own,.int .i64 d] w fun e w'=>RTo w (v,pl,ec) e w') ∧
  (∀ (hcal:∀ W,PIn W p n cp at_ en B -> Calls prog 113 #[.agg #[.slice p n cp,.int .i64 (en:Nat),.int .i64 sz],.int .i64 192,.int .i64 (at_:Nat),.int .i64 own,.int .i64 d] W fun e w'=>RTo W (v,pl,ec) e w'),Calls prog 88 #[.agg #[.slice p n cp,.int .i64 (en:Nat),.int .i64 sz],.int .i64 192,.int .i64 (at_:Nat),.int .i64 own,.int .i64 d] w fun e w'=>RTo w (v,pl,ec) e w') ∧
  (∀ (hcal:∀ W,PIn W p n cp at_ en B -> Calls prog 113 #[.agg #[.slice p n cp,.int .i64 (en:Nat),.int .i64 sz],.int .i64 193,.int .i64 (at_:Nat),.int .i64 own,.int .i64 d] W fun e w'=>RTo W (v,pl,ec) e w'),Calls prog 88 #[.agg #[.slice p n cp,.int .i64 (en:Nat),.int .i64 sz],.int .i64 193,.int .i64 (at_:Nat),.int .i64 own,.int .i64 d] w fun e w'=>RTo w (v,pl,ec) e w'):=by
 refine ⟨?_,?_,?_,?_,?_,?_,?_,?_⟩
 all_goals intro hcal
 all_goals
  have HC:=zH hcal
  have HP:=zH h
  clear hcal h
  go_enter func88,ntmps88
  go_upto_region 1 with fail
  obtain ⟨w0,x,y,hw,hx,hy,HXY,HF0,x0,x1,x2⟩:=frx w p n cp en sz
  rw [hw,hx,hy]
  clear hw hx hy
  go_wp2_with fail
  refine (HC.out _ (HP.out.blw HF0.out.blw)).mono ?_
  rintro e w1 ⟨sx,Fx,rfl,hvx,hb1⟩
  try dsimp only at hvx ⊢
  obtain ⟨qs,ds,hst,_,_⟩:=hvx.slice
  subst hst
  have HF1:=zH (HF0.out.next hb1)
  have HVX:=zH (And.intro hvx (And.intro HF0.out.lt (And.intro HF0.out.hx HF0.out.hxy)))
  clear hvx hb1
 focus
  go_wp2_with (refine stV (.tmp 10) (.tmp 25) rfl rfl rfl rfl rfl (HF1.out.res) rfl ?_)
 rotate_left
 focus
  go_wp2_with (refine stV (.tmp 10) (.tmp 25) rfl rfl rfl rfl rfl (HF1.out.res) rfl ?_)
 rotate_left
 focus
  go_wp2_with (refine stV (.tmp 10) (.tmp 25) rfl rfl rfl rfl rfl (HF1.out.res) rfl ?_)
 rotate_left
 focus
  go_wp2_with (refine stV (.tmp 10) (.tmp 25) rfl rfl rfl rfl rfl (HF1.out.res) rfl ?_)
 rotate_left
 focus
  go_wp2_with (refine stV (.tmp 10) (.tmp 25) rfl rfl rfl rfl rfl (HF1.out.res) rfl ?_)
 rotate_left
 focus
  go_wp2_with (refine stV (.tmp 10) (.tmp 25) rfl rfl rfl rfl rfl (HF1.out.res) rfl ?_)
 rotate_left
 focus
  go_wp2_with (refine stV (.tmp 10) (.tmp 39) rfl rfl rfl rfl rfl (HF1.out.res) rfl ?_)
 rotate_left
 focus
  go_wp2_with (refine stV (.tmp 10) (.tmp 39) rfl rfl rfl rfl rfl (HF1.out.res) rfl ?_)
 rotate_left
 all_goals
  refine bodyPost_ret (results_rdata _ _ y #[.int .i64 v.kind,.int .u64 v.num,.string v.text,.slice qs v.list.length ds,.int .i64 v.elem] rfl (HF1.out.row _) rfl) rfl ?_
  have h1:=HVX.out.2.1
  have h2:=HVX.out.2.2.1
  have h3:=HVX.out.2.2.2
  exact RTo.val HF1.out HVX.out.1 (by omega) (fun b hb=>by have:=(HVX.out.1.lt b hb).1;omega) _ _ rfl
def rdata_160:=fun w p n cp at_ en sz B h own d v pl ec=>(mrg_rdata_160 w p n cp at_ en sz B h own d v pl ec).1
def rdata_161:=fun w p n cp at_ en sz B h own d v pl ec=>(mrg_rdata_160 w p n cp at_ en sz B h own d v pl ec).2.1
def rdata_163:=fun w p n cp at_ en sz B h own d v pl ec=>(mrg_rdata_160 w p n cp at_ en sz B h own d v pl ec).2.2.1
def rdata_176:=fun w p n cp at_ en sz B h own d v pl ec=>(mrg_rdata_160 w p n cp at_ en sz B h own d v pl ec).2.2.2.1
def rdata_177:=fun w p n cp at_ en sz B h own d v pl ec=>(mrg_rdata_160 w p n cp at_ en sz B h own d v pl ec).2.2.2.2.1
def rdata_179:=fun w p n cp at_ en sz B h own d v pl ec=>(mrg_rdata_160 w p n cp at_ en sz B h own d v pl ec).2.2.2.2.2.1
def rdata_192:=fun w p n cp at_ en sz B h own d v pl ec=>(mrg_rdata_160 w p n cp at_ en sz B h own d v pl ec).2.2.2.2.2.2.1
def rdata_193:=fun w p n cp at_ en sz B h own d v pl ec=>(mrg_rdata_160 w p n cp at_ en sz B h own d v pl ec).2.2.2.2.2.2.2
theorem mrg_rdata_208 (w:World) (p:Option Addr) (n cp at_ en:Nat) (sz:Int) (B:List UInt8) (h:PIn w p n cp at_ en B) (own d:Int):(∀ (v:V) (pl ec:Int) (hcal:∀ W,PIn W p n cp at_ en B -> Calls prog 113 #[.agg #[.slice p n cp,.int .i64 (en:Nat),.int .i64 sz],.int .i64 208,.int .i64 (at_:Nat),.int .i64 own,.int .i64 d] W fun e w'=>RTo W (v,pl,ec) e w'),Calls prog 88 #[.agg #[.slice p n cp,.int .i64 (en:Nat),.int .i64 sz],.int .i64 208,.int .i64 (at_:Nat),.int .i64 own,.int .i64 d] w fun e w'=>RTo w (v,pl,ec) e w') ∧
  (∀ (v:V) (pl ec:Int) (hcal:∀ W,PIn W p n cp at_ en B -> Calls prog 113 #[.agg #[.slice p n cp,.int .i64 (en:Nat),.int .i64 sz],.int .i64 209,.int .i64 (at_:Nat),.int .i64 own,.int .i64 d] W fun e w'=>RTo W (v,pl,ec) e w'),Calls prog 88 #[.agg #[.slice p n cp,.int .i64 (en:Nat),.int .i64 sz],.int .i64 209,.int .i64 (at_:Nat),.int .i64 own,.int .i64 d] w fun e w'=>RTo w (v,pl,ec) e w') ∧
  (∀ (v:V) (pl ec:Int) (hcal:∀ W,PIn W p n cp at_ en B -> Calls prog 114 #[.agg #[.slice p n cp,.int .i64 (en:Nat),.int .i64 sz],.int .i64 224,.int .i64 (at_:Nat),.int .i64 d] W fun e w'=>RTo W (v,pl,ec) e w'),Calls prog 88 #[.agg #[.slice p n cp,.int .i64 (en:Nat),.int .i64 sz],.int .i64 224,.int .i64 (at_:Nat),.int .i64 own,.int .i64 d] w fun e w'=>RTo w (v,pl,ec) e w') ∧
  (∀ (v:V) (pl ec:Int) (hcal:∀ W,PIn W p n cp at_ en B -> Calls prog 114 #[.agg #[.slice p n cp,.int .i64 (en:Nat),.int .i64 sz],.int .i64 240,.int .i64 (at_:Nat),.int .i64 d] W fun e w'=>RTo W (v,pl,ec) e w'),Calls prog 88 #[.agg #[.slice p n cp,.int .i64 (en:Nat),.int .i64 sz],.int .i64 240,.int .i64 (at_:Nat),.int .i64 own,.int .i64 d] w fun e w'=>RTo w (v,pl,ec) e w') ∧
  (∀ (c:Nat) (h9:c / 16 <= 9) (v:V) (pl ec:Int) (hcal:∀ W,PIn W p n cp at_ en B -> Calls prog 115 #[.agg #[.slice p n cp,.int .i64 (en:Nat),.int .i64 sz],.int .i64 (c:Int),.int .i64 (at_:Nat)] W fun e w'=>RTo W (v,pl,ec) e w'),Calls prog 88 #[.agg #[.slice p n cp,.int .i64 (en:Nat),.int .i64 sz],.int .i64 (c:Int),.int .i64 (at_:Nat),.int .i64 own,.int .i64 d] w fun e w'=>RTo w (v,pl,ec) e w'):=by
 refine ⟨?_,?_,?_,?_,?_⟩
 intro v pl ec hcal
 rotate_left
 intro v pl ec hcal
 rotate_left
 intro v pl ec hcal
 rotate_left
 intro v pl ec hcal
 rotate_left
 intro c h9 v pl ec hcal
 rotate_left
 all_goals
  have HC:=zH hcal
  have HP:=zH h
 clear hcal h
 rotate_left
 clear hcal h
 rotate_left
 clear hcal h
 rotate_left
 clear hcal h
 rotate_left
 have n0:((c:Int) == 160) = false:=by simp;omega
 have n1:((c:Int) == 161) = false:=by simp;omega
 have n2:((c:Int) == 163) = false:=by simp;omega
 have n3:((c:Int) == 176) = false:=by simp;omega
 have n4:((c:Int) == 177) = false:=by simp;omega
 have n5:((c:Int) == 179) = false:=by simp;omega
 have n6:((c:Int) == 192) = false:=by simp;omega
 have n7:((c:Int) == 193) = false:=by simp;omega
 have n8:((c:Int) == 208) = false:=by simp;omega
 have n9:((c:Int) == 209) = false:=by simp;omega
 have n10:((c:Int) == 224) = false:=by simp;omega
 have n11:((c:Int) == 240) = false:=by simp;omega
 clear hcal h h9
 rotate_left
 all_goals
  go_enter func88,ntmps88
  go_upto_region 1 with fail
  obtain ⟨w0,x,y,hw,hx,hy,HXY,HF0,x0,x1,x2⟩:=frx w p n cp en sz
  rw [hw,hx,hy]
  clear hw hx hy
  go_wp2_with fail
  refine (HC.out _ (HP.out.blw HF0.out.blw)).mono ?_
  rintro e w1 ⟨sx,Fx,rfl,hvx,hb1⟩
  try dsimp only at hvx ⊢
  obtain ⟨qs,ds,hst,_,_⟩:=hvx.slice
  subst hst
  have HF1:=zH (HF0.out.next hb1)
  have HVX:=zH (And.intro hvx (And.intro HF0.out.lt (And.intro HF0.out.hx HF0.out.hxy)))
  clear hvx hb1
 focus
  go_wp2_with (refine stV (.tmp 10) (.tmp 39) rfl rfl rfl rfl rfl (HF1.out.res) rfl ?_)
 rotate_left
 focus
  go_wp2_with (refine stV (.tmp 10) (.tmp 39) rfl rfl rfl rfl rfl (HF1.out.res) rfl ?_)
 rotate_left
 focus
  go_wp2_with (refine stV (.tmp 10) (.tmp 50) rfl rfl rfl rfl rfl (HF1.out.res) rfl ?_)
 rotate_left
 focus
  go_wp2_with (refine stV (.tmp 10) (.tmp 50) rfl rfl rfl rfl rfl (HF1.out.res) rfl ?_)
 rotate_left
 focus
  go_wp2_with (refine stV (.tmp 10) (.tmp 57) rfl rfl rfl rfl rfl (HF1.out.res) rfl ?_)
 rotate_left
 all_goals
  refine bodyPost_ret (results_rdata _ _ y #[.int .i64 v.kind,.int .u64 v.num,.string v.text,.slice qs v.list.length ds,.int .i64 v.elem] rfl (HF1.out.row _) rfl) rfl ?_
  have h1:=HVX.out.2.1
  have h2:=HVX.out.2.2.1
  have h3:=HVX.out.2.2.2
  exact RTo.val HF1.out HVX.out.1 (by omega) (fun b hb=>by have:=(HVX.out.1.lt b hb).1;omega) _ _ rfl
def rdata_208:=fun w p n cp at_ en sz B h own d=>(mrg_rdata_208 w p n cp at_ en sz B h own d).1
def rdata_209:=fun w p n cp at_ en sz B h own d=>(mrg_rdata_208 w p n cp at_ en sz B h own d).2.1
def rdata_224:=fun w p n cp at_ en sz B h own d=>(mrg_rdata_208 w p n cp at_ en sz B h own d).2.2.1
def rdata_240:=fun w p n cp at_ en sz B h own d=>(mrg_rdata_208 w p n cp at_ en sz B h own d).2.2.2.1
def rdata_fix:=fun w p n cp at_ en sz B h own d=>(mrg_rdata_208 w p n cp at_ en sz B h own d).2.2.2.2
theorem ans_shift {n at_ k a:Nat} {sz own:Int} {y:Er} (ha:a = at_+k):ansR n sz own a (.error y) = ansR n sz own at_ (.error (shiftE k y)):=by
 subst ha
 cases y with
 | short=>rfl
 | own e=>rfl
 | pl r e =>
  show (zeroV,((at_+k+r:Nat):Int),e.1) = (zeroV,((at_+(r+k):Nat):Int),e.1)
  rw [show at_+k+r = at_+(r+k) by omega]
theorem ans_err (n:Nat) (sz own:Int) (a:Nat) (y:Er):∃ pl ec,ansR n sz own a (.error y) = (zeroV,pl,ec)∧ec ≠ 0:=⟨_,_,rfl,erC_ne sz y⟩
theorem mrg_rpair_err1 (w:World) (p:Option Addr) (n cp at_ en:Nat) (sz:Int) (B:List UInt8) (h:PIn w p n cp at_ en B) (own d:Int) (a1:Nat) (hd9:0 <= d∧d <= 33):(∀ (pl ec:Int) (hne:ec ≠ 0) (h1:∀ W,PIn W p n cp at_ en B -> Calls prog 59 #[.agg #[.slice p n cp,.int .i64 (en:Nat),.int .i64 sz],.int .i64 (a1:Nat),.int .i64 (d+1)] W fun e w'=>RTo W (zeroV,pl,ec) e w'),Calls prog 87 #[.agg #[.slice p n cp,.int .i64 (en:Nat),.int .i64 sz],.int .i64 (a1:Nat),.int .i64 d] w fun e w'=>RTo w (zeroV,pl,ec) e w') ∧
  (∀ (v:V) (a2:Nat) (pl ec:Int) (hne:ec ≠ 0) (h1:∀ W,PIn W p n cp at_ en B -> Calls prog 59 #[.agg #[.slice p n cp,.int .i64 (en:Nat),.int .i64 sz],.int .i64 (a1:Nat),.int .i64 (d+1)] W fun e w'=>RTo W (v,(a2:Nat),0) e w') (h2:∀ W,PIn W p n cp at_ en B -> Calls prog 59 #[.agg #[.slice p n cp,.int .i64 (en:Nat),.int .i64 sz],.int .i64 (a2:Nat),.int .i64 (d+1)] W fun e w'=>RTo W (zeroV,pl,ec) e w'),Calls prog 87 #[.agg #[.slice p n cp,.int .i64 (en:Nat),.int .i64 sz],.int .i64 (a1:Nat),.int .i64 d] w fun e w'=>RTo w (zeroV,pl,ec) e w'):=by
 refine ⟨?_,?_⟩
 intro pl ec hne h1
 rotate_left
 intro v a2 pl ec hne h1 h2
 rotate_left
 all_goals
  have hdw:IntKind.i64.wrap (d+1) = d+1:=IntWalk.i64_in _ (by omega)
  have hdw2:wrap64 (d+1) = d+1:=by unfold wrap64;omega
  have HP:=zH h
  have hn1:(ec == 0) = false:=by simpa using hne
  have hn2:(ec != 0) = true:=by simpa using hne
  have H1:=zH h1
 clear hne h1 h hd9
 rotate_left
 have H2:=zH h2
 clear hne h1 h2 h hd9
 rotate_left
 all_goals
  go_enter func87,ntmps87
  go_upto_region 1 with fail
  obtain ⟨w0,x,y,hw,hx,hy,HXY,HF0,x0,x1,x2⟩:=frx w p n cp en sz
  rw [hw,hx,hy]
  clear hw hx hy
  go_wp2_with fail
  refine (H1.out _ (HP.out.blw HF0.out.blw)).mono ?_
  rintro e w1 ⟨sx,Fx,rfl,hvx,hb1⟩
  try dsimp only at hvx ⊢
  obtain ⟨qs,ds,hst,_,_⟩:=hvx.slice
  subst hst
  have HF1:=zH (HF0.out.next hb1)
 clear hvx hb1 x0 x1 x2
 rotate_left
 clear x0 x1 x2
 rotate_left
 all_goals
  go_upto_region 2 with (refine stV (.tmp 9) (.tmp 18) rfl rfl rfl rfl rfl (zN w1 _) rfl ?_)
  refine layW w1 ?_
  intro w2 hb2 ou
 ·have HF2:=zH (HF1.out.next hb2)
  clear hb2 ou
  go_wp2_with (refine stV (.tmp 6) (.tmp 23) rfl rfl rfl rfl rfl (HF2.out.res) rfl ?_)
  refine bodyPost_ret (results_rpair _ _ y zR rfl (HF2.out.row _) rfl) rfl ?_
  exact RTo.zero HF2.out _ _ rfl
 obtain ⟨u,hu⟩:∃ u,w1.heap.size = u:=⟨_,rfl⟩
 have HF2:=zH (HF1.out.next hb2)
 have HV2:=zH (And.intro (hvx.blw hb2) (And.intro hb1.size (And.intro (hu ▸ ou) (And.intro hu (And.intro HF0.out.lt (And.intro HF0.out.hx HF0.out.hxy))))))
 rw [hu]
 clear hb2 ou hu hvx hb1
 obtain ⟨x0,x1,x2⟩:=c3 HF2.out.part
 go_wp2_with fail
 refine (H2.out _ (HP.out.blw HF2.out.blw)).mono ?_
 rintro e w3 ⟨sy,Fy,rfl,hvy,hb3⟩
 try dsimp only at hvy ⊢
 obtain ⟨rs,es,hst,_,_⟩:=hvy.slice
 subst hst
 have HF3:=zH (HF2.out.next hb3)
 have HU3:=zH ((hb3.block u (gl HV2.out.2.2.1)).trans HV2.out.2.2.1)
 clear x0 x1 x2
 clear hvy hb3
 go_upto_region 5 with (refine stV (.tmp 11) (.tmp 32) rfl rfl rfl rfl rfl (zN w3 _) rfl ?_)
 refine layW w3 ?_
 intro w4 hb2 ou
 have HF4:=zH (HF3.out.next hb2)
 clear hb2 ou
 go_wp2_with (refine stV (.tmp 6) (.tmp 37) rfl rfl rfl rfl rfl (HF4.out.res) rfl ?_)
 refine bodyPost_ret (results_rpair _ _ y zR rfl (HF4.out.row _) rfl) rfl ?_
 exact RTo.zero HF4.out _ _ rfl
def rpair_err1:=fun w p n cp at_ en sz B h own d a1 hd9=>(mrg_rpair_err1 w p n cp at_ en sz B h own d a1 hd9).1
def rpair_err2:=fun w p n cp at_ en sz B h own d a1 hd9=>(mrg_rpair_err1 w p n cp at_ en sz B h own d a1 hd9).2
theorem rpair_ok (w:World) (p:Option Addr) (n cp at_ en:Nat) (sz:Int) (B:List UInt8) (h:PIn w p n cp at_ en B) (own d:Int) (a1:Nat) (hd9:0 <= d∧d <= 33) (v v2:V) (a2 a3:Nat) (h1:∀ W,PIn W p n cp at_ en B -> Calls prog 59 #[.agg #[.slice p n cp,.int .i64 (en:Nat),.int .i64 sz],.int .i64 (a1:Nat),.int .i64 (d+1)] W fun e w'=>RTo W (v,(a2:Nat),0) e w') (h2:∀ W,PIn W p n cp at_ en B -> Calls prog 59 #[.agg #[.slice p n cp,.int .i64 (en:Nat),.int .i64 sz],.int .i64 (a2:Nat),.int .i64 (d+1)] W fun e w'=>RTo W (v2,(a3:Nat),0) e w') :
  Calls prog 87 #[.agg #[.slice p n cp,.int .i64 (en:Nat),.int .i64 sz],.int .i64 (a1:Nat),.int .i64 d] w fun e w'=>RTo w (.mk 24 0 ⟨#[]⟩ [v,v2] 0,(a3:Nat),0) e w':=by
 have hdw:IntKind.i64.wrap (d+1) = d+1:=IntWalk.i64_in _ (by omega)
 have hdw2:wrap64 (d+1) = d+1:=by unfold wrap64;omega
 have HP:=zH h
 have H1:=zH h1
 have H2:=zH h2
 clear h1 h2 h hd9
 go_enter func87,ntmps87
 go_upto_region 1 with fail
 obtain ⟨w0,x,y,hw,hx,hy,HXY,HF0,x0,x1,x2⟩:=frx w p n cp en sz
 rw [hw,hx,hy]
 clear hw hx hy
 go_wp2_with fail
 refine (H1.out _ (HP.out.blw HF0.out.blw)).mono ?_
 rintro e w1 ⟨sx,Fx,rfl,hvx,hb1⟩
 try dsimp only at hvx ⊢
 obtain ⟨qs,ds,hst,_,_⟩:=hvx.slice
 subst hst
 have HF1:=zH (HF0.out.next hb1)
 clear x0 x1 x2
 go_upto_region 2 with (refine stV (.tmp 9) (.tmp 18) rfl rfl rfl rfl rfl (zN w1 _) rfl ?_)
 refine layW w1 ?_
 intro w2 hb2 ou
 obtain ⟨u,hu⟩:∃ u,w1.heap.size = u:=⟨_,rfl⟩
 have HF2:=zH (HF1.out.next hb2)
 have HV2:=zH (And.intro (hvx.blw hb2) (And.intro hb1.size (And.intro (hu ▸ ou) (And.intro hu (And.intro HF0.out.lt (And.intro HF0.out.hx HF0.out.hxy))))))
 rw [hu]
 clear hb2 ou hu hvx hb1
 obtain ⟨x0,x1,x2⟩:=c3 HF2.out.part
 go_wp2_with fail
 refine (H2.out _ (HP.out.blw HF2.out.blw)).mono ?_
 rintro e w3 ⟨sy,Fy,rfl,hvy,hb3⟩
 try dsimp only at hvy ⊢
 obtain ⟨rs,es,hst,_,_⟩:=hvy.slice
 subst hst
 have HF3:=zH (HF2.out.next hb3)
 have HU3:=zH ((hb3.block u (gl HV2.out.2.2.1)).trans HV2.out.2.2.1)
 clear x0 x1 x2
 go_upto_region 5 with (refine stV (.tmp 11) (.tmp 32) rfl rfl rfl rfl rfl (zN w3 _) rfl ?_)
 refine layW w3 ?_
 intro w4 hb2 ou
 obtain ⟨u2,hu2⟩:∃ u2,w3.heap.size = u2:=⟨_,rfl⟩
 have HF4:=zH (HF3.out.next hb2)
 have HU4:=zH ((hb2.block u (gl HU3.out)).trans HU3.out)
 have HW4:=zH (And.intro (hu2 ▸ ou) (And.intro ((HV2.out.1.blw hb3).blw hb2) (And.intro (hvy.blw hb2) (And.intro hb3.size (And.intro hb2.size hu2)))))
 have HLT:=zH (fun b q=>HV2.out.1.lt b q)
 rw [hu2]
 clear hb2 ou hu2 hvy hb3
 obtain ⟨r0,r1,r2,r3,r4⟩:=c5 HU4.out
 obtain ⟨q0,q1,q2,q3,q4⟩:=c5 HW4.out.1
 have hal:Below w4.heap.size w4 (w4.alloc (.cells #[.int .i64 v.kind,.int .u64 v.num,.string v.text,.slice qs v.list.length ds,.int .i64 v.elem,.int .i64 v2.kind,.int .u64 v2.num,.string v2.text,.slice rs v2.list.length es,.int .i64 v2.elem] 25)):=(Below.refl _ _).alloc (Nat.le_refl _) _
 have oten:=zN w4 (.cells #[.int .i64 v.kind,.int .u64 v.num,.string v.text,.slice qs v.list.length ds,.int .i64 v.elem,.int .i64 v2.kind,.int .u64 v2.num,.string v2.text,.slice rs v2.list.length es,.int .i64 v2.elem] 25)
 have HF5:=zH (HF4.out.next hal)
 have HAL:=zH (And.intro hal oten)
 clear hal oten
 go_wp2_with (refine stV (.tmp 6) (.tmp 43) rfl rfl rfl rfl rfl (HF5.out.res) rfl ?_)
 refine bodyPost_ret (results_rpair _ _ y #[.int .i64 24,.int .u64 0,.string ⟨#[]⟩,.slice (some ⟨w4.heap.size,0,none⟩) 2 2,.int .i64 0] rfl (HF5.out.row _) rfl) rfl ?_
 have k1:=HV2.out.2.1
 have k2:=HV2.out.2.2.2.1
 have k3:=HV2.out.2.2.2.2.1
 have k4:=HV2.out.2.2.2.2.2
 have k5:=HW4.out.2.2.2
 have k6:=(gl HV2.out.2.2.1)
 have hv1:VO (w4.alloc (.cells #[.int .i64 v.kind,.int .u64 v.num,.string v.text,.slice qs v.list.length ds,.int .i64 v.elem,.int .i64 v2.kind,.int .u64 v2.num,.string v2.text,.slice rs v2.list.length es,.int .i64 v2.elem] 25)) w0.heap.size v (.slice qs v.list.length ds) Fx:=HW4.out.2.1.blw HAL.out.1
 have hv2:VO (w4.alloc (.cells #[.int .i64 v.kind,.int .u64 v.num,.string v.text,.slice qs v.list.length ds,.int .i64 v.elem,.int .i64 v2.kind,.int .u64 v2.num,.string v2.text,.slice rs v2.list.length es,.int .i64 v2.elem] 25)) w0.heap.size v2 (.slice rs v2.list.length es) Fy:=(HW4.out.2.2.1.blw HAL.out.1).mono (by omega)
 have hp:=VO.pair (g:=w4.heap.size) HAL.out.2 hv1 hv2 (fun j q1 q2=>by have a1:=(HLT.out j q1).2;have a2:=(HW4.out.2.2.1.lt j q2).1;omega) (fun q=>by have a1:=(HW4.out.2.1.lt _ q).2;omega) (fun q=>by have a1:=(HW4.out.2.2.1.lt _ q).2;omega) (by omega)
 exact RTo.val (v:=.mk 24 0 ⟨#[]⟩ [v,v2] 0) (s:=.slice (some ⟨w4.heap.size,0,none⟩) 2 2) HF5.out hp (by omega) (fun b hb=>by have:=(hp.lt b hb).1;omega) _ _ rfl

attribute [local go_sem] Oper.semAt_some

theorem rread_short (w:World) (p:Option Addr) (n cp at_ en:Nat) (sz:Int) (B:List UInt8) (h:PIn w p n cp at_ en B) (d:Int) (hs:¬ at_ < en) :
  Calls prog 59 #[.agg #[.slice p n cp,.int .i64 (en:Nat),.int .i64 sz],.int .i64 (at_:Nat),.int .i64 d] w fun e w'=>RTo w (zeroV,shP n sz,shC sz) e w':=by
 have HSH:=zH (fun W=>rshort_any W p n cp en sz)
 have hd1:(en:Int) <= (at_:Nat):=by omega
 clear hs h
 go_enter func59,ntmps59
 go_upto_region 1 with fail
 obtain ⟨w0,x,y,hw,hx,hy,HXY,HF0,x0,x1,x2⟩:=frx w p n cp en sz
 rw [hw,hx,hy]
 clear hw hx hy
 go_wp2_with fail
 refine (HSH.out _).mono ?_
 rintro e w2 ⟨rfl,hb2⟩
 have HF2:=zH (HF0.out.next hb2)
 clear hb2
 go_wp2_with (refine stV (.tmp 6) (.tmp 22) rfl rfl rfl rfl rfl (HF2.out.res) rfl ?_)
 refine bodyPost_ret (results_rread _ _ y zR rfl (HF2.out.row _) rfl) rfl ?_
 exact RTo.zero HF2.out _ _ rfl
theorem mrg_rread_code (w:World) (p:Option Addr) (n cp at_ en:Nat) (sz:Int) (B:List UInt8) (h:PIn w p n cp at_ en B) (d:Int) (hs:at_ < en) (c a1:Nat) (hc:(B.getD at_ 0).toNat = c) (ha1:at_+1 = a1) (K:Int) (hK:kindC c = K):(∀ (hk:K < 0),Calls prog 59 #[.agg #[.slice p n cp,.int .i64 (en:Nat),.int .i64 sz],.int .i64 (at_:Nat),.int .i64 d] w fun e w'=>RTo w (zeroV,(at_:Nat),30) e w') ∧
  (∀ (hk:0 <= K) (hd:(32:Int) < d),Calls prog 59 #[.agg #[.slice p n cp,.int .i64 (en:Nat),.int .i64 sz],.int .i64 (at_:Nat),.int .i64 d] w fun e w'=>RTo w (zeroV,(at_:Nat),26) e w') ∧
  (∀ (v:V) (pl ec:Int) (hk:K = 24) (hd:¬ (32:Int) < d) (hcal:∀ W,PIn W p n cp at_ en B -> Calls prog 87 #[.agg #[.slice p n cp,.int .i64 (en:Nat),.int .i64 sz],.int .i64 (a1:Nat),.int .i64 d] W fun e w'=>RTo W (v,pl,ec) e w'),Calls prog 59 #[.agg #[.slice p n cp,.int .i64 (en:Nat),.int .i64 sz],.int .i64 (at_:Nat),.int .i64 d] w fun e w'=>RTo w (v,pl,ec) e w') ∧
  (∀ (v:V) (pl ec:Int) (own:Int) (hown:own = (at_:Nat)) (hk:0 <= K) (hk2:(K == 24) = false) (hd:¬ (32:Int) < d) (hcal:∀ W,PIn W p n cp at_ en B -> Calls prog 88 #[.agg #[.slice p n cp,.int .i64 (en:Nat),.int .i64 sz],.int .i64 (c:Nat),.int .i64 (a1:Nat),.int .i64 own,.int .i64 d] W fun e w'=>RTo W (v,pl,ec) e w'),Calls prog 59 #[.agg #[.slice p n cp,.int .i64 (en:Nat),.int .i64 sz],.int .i64 (at_:Nat),.int .i64 d] w fun e w'=>RTo w (v,pl,ec) e w'):=by
 refine ⟨?_,?_,?_,?_⟩
 intro hk
 rotate_left
 intro hk hd
 have hk2:¬ K < 0:=by omega
 clear hk
 rotate_left
 intro v pl ec hk hd hcal
 have hk3:¬ K < 0:=by omega
 have hk4:(K == 24) = true:=by simp [hk]
 have HC:=zH hcal
 clear hcal hk
 rotate_left
 intro v pl ec own hown hk hk2 hd hcal
 subst hown
 have hk3:¬ K < 0:=by omega
 have HC:=zH hcal
 clear hcal hk
 rotate_left
 all_goals
  have hd1:¬ (en:Int) <= (at_:Nat):=by omega
  have hle:=h.bytes.le
  have hen:=h.hen
  have hn9:=h.hn
  have hatn:(at_:Int) < n:=by omega
  have HP:=zH h
  have hx1:c < 256:=by rw [← hc];exact UInt8.toNat_lt _
  have HK:=zH (fun W=>hK ▸ rkind_any c W hx1)
  have hcv1:IntKind.i64.wrap ((c:Nat):Int) = (c:Nat):=IntWalk.i64_in _ (by omega)
  have hadd:IntKind.i64.wrap ((at_:Int)+1) = ((a1:Nat):Int):=by rw [IntWalk.i64_in _ (by omega)];omega
  have HCC:=zH hc
  clear hc h hx1 hK ha1
  go_enter func59,ntmps59
  go_upto_region 1 with fail
  obtain ⟨w0,x,y,hw,hx,hy,HXY,HF0,x0,x1,x2⟩:=frx w p n cp en sz
  rw [hw,hx,hy]
  clear hw hx hy
  obtain ⟨b,o,rfl,hbl,hcell⟩:=(HP.out.blw HF0.out.blw).bytes.at_ (by omega)
  have hc1:=hcell at_ (by omega)
  rw [HCC.out] at hc1
  clear hcell hbl hle hen hn9 hs
  go_wp2_with fail
  refine (HK.out _).mono ?_
  rintro e w4 ⟨rfl,hb4⟩
  have HF4:=zH (HF0.out.next hb4)
  clear hb4 hc1 x0 x1 x2
 ·go_wp2_with (refine stV (.tmp 6) (.tmp 35) rfl rfl rfl rfl rfl (HF4.out.res) rfl ?_)
  refine bodyPost_ret (results_rread _ _ y zR rfl (HF4.out.row _) rfl) rfl ?_
  exact RTo.zero HF4.out _ _ rfl
 ·go_wp2_with (refine stV (.tmp 6) (.tmp 39) rfl rfl rfl rfl rfl (HF4.out.res) rfl ?_)
  refine bodyPost_ret (results_rread _ _ y zR rfl (HF4.out.row _) rfl) rfl ?_
  exact RTo.zero HF4.out _ _ rfl
 ·obtain ⟨x0,x1,x2⟩:=c3 HF4.out.part
  go_wp2_with fail
  refine (HC.out _ (HP.out.blw HF4.out.blw)).mono ?_
  rintro e w1 ⟨sx,Fx,rfl,hvx,hb1⟩
  try dsimp only at hvx ⊢
  obtain ⟨qs,ds,hst,_,_⟩:=hvx.slice
  subst hst
  have HF1:=zH (HF4.out.next hb1)
  have HVX:=zH (And.intro hvx (And.intro HF4.out.lt (And.intro HF4.out.hx HF4.out.hxy)))
  clear hvx hb1
  go_wp2_with (refine stV (.tmp 6) (.tmp 48) rfl rfl rfl rfl rfl (HF1.out.res) rfl ?_)
  refine bodyPost_ret (results_rread _ _ y #[.int .i64 v.kind,.int .u64 v.num,.string v.text,.slice qs v.list.length ds,.int .i64 v.elem] rfl (HF1.out.row _) rfl) rfl ?_
  have h1:=HVX.out.2.1
  have h2:=HVX.out.2.2.1
  have h3:=HVX.out.2.2.2
  exact RTo.val HF1.out HVX.out.1 (by omega) (fun b hb=>by have:=(HVX.out.1.lt b hb).1;omega) _ _ rfl
 obtain ⟨x0,x1,x2⟩:=c3 HF4.out.part
 go_wp2_with fail
 refine (HC.out _ (HP.out.blw HF4.out.blw)).mono ?_
 rintro e w1 ⟨sx,Fx,rfl,hvx,hb1⟩
 try dsimp only at hvx ⊢
 obtain ⟨qs,ds,hst,_,_⟩:=hvx.slice
 subst hst
 have HF1:=zH (HF4.out.next hb1)
 have HVX:=zH (And.intro hvx (And.intro HF4.out.lt (And.intro HF4.out.hx HF4.out.hxy)))
 clear hvx hb1
 go_wp2_with (refine stV (.tmp 6) (.tmp 58) rfl rfl rfl rfl rfl (HF1.out.res) rfl ?_)
 refine bodyPost_ret (results_rread _ _ y #[.int .i64 v.kind,.int .u64 v.num,.string v.text,.slice qs v.list.length ds,.int .i64 v.elem] rfl (HF1.out.row _) rfl) rfl ?_
 have h1:=HVX.out.2.1
 have h2:=HVX.out.2.2.1
 have h3:=HVX.out.2.2.2
 exact RTo.val HF1.out HVX.out.1 (by omega) (fun b hb=>by have:=(HVX.out.1.lt b hb).1;omega) _ _ rfl
def rread_code:=fun w p n cp at_ en sz B h d hs c a1 hc ha1 K hK=>(mrg_rread_code w p n cp at_ en sz B h d hs c a1 hc ha1 K hK).1
def rread_deep:=fun w p n cp at_ en sz B h d hs c a1 hc ha1 K hK=>(mrg_rread_code w p n cp at_ en sz B h d hs c a1 hc ha1 K hK).2.1
def rread_pair:=fun w p n cp at_ en sz B h d hs c a1 hc ha1 K hK=>(mrg_rread_code w p n cp at_ en sz B h d hs c a1 hc ha1 K hK).2.2.1
def rread_data:=fun w p n cp at_ en sz B h d hs c a1 hc ha1 K hK=>(mrg_rread_code w p n cp at_ en sz B h d hs c a1 hc ha1 K hK).2.2.2

theorem rsOf_cons {B:List UInt8} {a e:Nat} (h:a < e) (he:e <= B.length):sOf B a e = B.getD a 0 :: sOf B (a+1) e:=by
 unfold sOf
 rw [List.drop_eq_getElem_cons (by omega),show e - a = (e - (a+1))+1 by omega,List.take_succ_cons,List.getD_eq_getElem?_getD,List.getElem?_eq_getElem (by omega)]
 rfl
theorem rsOf_end {B:List UInt8} {a e:Nat} (h:¬ a < e):sOf B a e = []:=by
 unfold sOf
 rw [show e - a = 0 by omega,List.take_zero]
theorem codes_arr {c:Nat} (hc:c / 16 = 14 ∨ c / 16 = 15) (hk:0 <= kindC c):c = 224 ∨ c = 240:=by
 rcases kindC_mem hk (by omega) with rfl|rfl|rfl|rfl|rfl|rfl|rfl|rfl|rfl|rfl|rfl|rfl|rfl|rfl|rfl|rfl|rfl|rfl|rfl|rfl|rfl|rfl|rfl|rfl|rfl|rfl|rfl|rfl|rfl|rfl|rfl|rfl|rfl|rfl|rfl|rfl|rfl|rfl|rfl
 all_goals first|omega|exact .inl rfl|exact .inr rfl
theorem codes_sp {c:Nat} (hc:c / 16 = 12 ∨ c / 16 = 13) (hk:0 <= kindC c):c = 192 ∨ c = 193 ∨ c = 208 ∨ c = 209:=by
 rcases kindC_mem hk (by omega) with rfl|rfl|rfl|rfl|rfl|rfl|rfl|rfl|rfl|rfl|rfl|rfl|rfl|rfl|rfl|rfl|rfl|rfl|rfl|rfl|rfl|rfl|rfl|rfl|rfl|rfl|rfl|rfl|rfl|rfl|rfl|rfl|rfl|rfl|rfl|rfl|rfl|rfl|rfl
 all_goals first|omega|decide
theorem rarr_any (w:World) (p:Option Addr) (n cp at_ en:Nat) (sz own:Int) (B:List UInt8) (h:PIn w p n cp at_ en B) (c:Nat) (d:Int) (hc:c / 16 = 14 ∨ c / 16 = 15) (hk:0 <= kindC c)
  (rd:Nat -> List UInt8 -> Res) (hrd:(RdD 88 p n cp B (d+1) rd∧(∀ c s v k,rd c s = .ok (v,k) -> k <= s.length)∧¬ (32:Int) < d+1) ∨ ((∀ c s,rd c s = .error (.pl 0 (ec 26)))∧(32:Int) < d+1)) (hd9:0 <= d∧d <= 33) :
  Calls prog 114 #[.agg #[.slice p n cp,.int .i64 (en:Nat),.int .i64 sz],.int .i64 (c:Int),.int .i64 (at_:Nat),.int .i64 d] w fun e w'=>RTo w (ansR n sz own at_ (withinR c (wOf c+1) (arrIn rd c) (sOf B at_ en))) e w':=by
 have hl:(sOf B at_ en).length = en - at_:=sOf_len (by rw [h.len];exact h.hen)
 have hae:=h.ha
 have hle:=h.bytes.le
 have hen:=h.hen
 have hBl:=h.len
 have hc2:c < 256:=by omega
 have h10:10 <= c / 16:=by omega
 have hw14:=wOf_bd c
 have hK:kindC c = 23:=by rcases codes_arr hc hk with rfl|rfl <;> rfl
 obtain ⟨wd,hwd⟩:∃ wd,wOf c = wd:=⟨_,rfl⟩
 unfold withinR
 rw [hwd] at hw14 ⊢
 by_cases hs:en - at_ < wd
 ·rw [if_pos (by omega)]
  exact rarr_err w p n cp at_ en sz own B h c wd d hc2 hk h10 hwd _ _ (erC_ne sz .short) (fun W hW=>rspan_short W p n cp at_ en sz B hW wd (wd+1) hw14.1 hw14.2 hs)
 have htk:beVal ((sOf B at_ en).take wd) = nAt B at_ wd:=by unfold nAt;rw [sOf_take (by omega)]
 rw [if_neg (by omega),htk]
 by_cases hs2:nAt B at_ wd < wd+1
 ·rw [if_pos hs2]
  exact rarr_err w p n cp at_ en sz own B h c wd d hc2 hk h10 hwd _ _ (erC_ne sz (.pl 0 (ec 32))) (fun W hW=>rspan_least W p n cp at_ en sz B hW wd (wd+1) hw14.1 hw14.2 hs hs2)
 rw [if_neg hs2]
 by_cases hs3:en - at_ - wd < nAt B at_ wd
 ·rw [if_pos (by omega)]
  exact rarr_err w p n cp at_ en sz own B h c wd d hc2 hk h10 hwd _ _ (erC_ne sz .short) (fun W hW=>rspan_short2 W p n cp at_ en sz B hW wd (wd+1) hw14.1 hw14.2 hs hs2 hs3)
 rw [if_neg (by omega)]
 have hok:=fun W (hW:PIn W p n cp at_ en B)=>rspan_ok W p n cp at_ en sz B hW wd (wd+1) hw14.1 hw14.2 hs hs2 hs3
 obtain ⟨S,hS⟩:∃ S,nAt B at_ wd = S:=⟨_,rfl⟩
 rw [hS] at hok hs2 hs3 ⊢
 have hq:((sOf B at_ en).drop wd).take S = sOf B (at_+wd) (at_+wd+S):=by rw [sOf_drop,sOf_cut (by omega)]
 rw [hq]
 obtain ⟨N,hN⟩:∃ N,nAt B (at_+wd) wd = N:=⟨_,rfl⟩
 have htk2:beVal ((sOf B (at_+wd) (at_+wd+S)).take wd) = N:=by rw [← hN];unfold nAt;rw [sOf_take (by omega)]
 have hdr:(sOf B (at_+wd) (at_+wd+S)).drop wd = sOf B (at_+wd+wd) (at_+wd+S):=sOf_drop
 have hdr1:(sOf B (at_+wd) (at_+wd+S)).drop (wd+1) = sOf B (at_+wd+wd+1) (at_+wd+S):=by
  rw [sOf_drop,show at_+wd+(wd+1) = at_+wd+wd+1 by omega]
 have hhd:(sOf B (at_+wd+wd) (at_+wd+S)).headD 0 = B.getD (at_+wd+wd) 0:=by rw [rsOf_cons (by omega) (by omega)];rfl
 obtain ⟨c1,hc1⟩:∃ c1,(B.getD (at_+wd+wd) 0).toNat = c1:=⟨_,rfl⟩
 unfold arrIn
 simp only [hwd,htk2,hdr,hdr1,hhd,hc1]
 have e1:ansR n sz own at_ (.error (.pl (wd+wd) (ec 30))) = (zeroV,((at_+wd+wd:Nat):Int),30):=by
  show (zeroV,((at_+(wd+wd):Nat):Int),(30:Int)) = _
  rw [show at_+(wd+wd) = at_+wd+wd by omega]
 by_cases hk1:0 <= kindC c1
 ·by_cases h01:c1 = 0
  ·rw [if_pos (.inr (.inl h01)),e1]
   exact rarr_desc w p n cp at_ en sz own B h c wd d hc2 hk h10 hwd _ _ _ _ N c1 rfl rfl rfl (by omega) (by omega) hN hc1 hok (by rw [h01];rfl)
  by_cases h41:c1 / 16 = 4
  ·rw [if_pos (.inr (.inr h41)),e1]
   exact rarr_lone w p n cp at_ en sz own B h c wd d hc2 hk h10 hwd _ _ _ _ N c1 rfl rfl rfl (by omega) (by omega) hN hc1 hok hk1 h01 h41
  rw [if_neg (by omega),hK]
  have e3:∀ k,(at_+wd+wd+1+k < at_+wd+S) = (wd+1+k < S):=fun k=>by rw [eq_iff_iff];omega
  have e4:at_+wd+S - at_ = wd+S:=by omega
  have key:Calls prog 114 #[.agg #[.slice p n cp,.int .i64 (en:Nat),.int .i64 sz],.int .i64 (c:Int),.int .i64 (at_:Nat),.int .i64 d] w fun e w'=>RTo w (ansR n sz own at_ (match els (bareR rd c1) N (sOf B (at_+wd+wd+1) (at_+wd+S)) with|.error e=>.error (spanE (wd+wd+1) e)|.ok (l,k)=>if at_+wd+wd+1+k < at_+wd+S then .error (.pl 0 (ec 32)) else .ok (.mk 23 0 ⟨#[]⟩ l (kindC c1),at_+wd+S - at_):Res)) e w':=by
   rcases hrd with ⟨h1,h2,h3⟩|⟨h1,h3⟩
   ·exact rarr_ok w p n cp at_ en sz own B h c wd d hc2 hk h10 hwd _ _ _ _ N c1 rfl rfl rfl (by omega) (by omega) hN hc1 hok hk1 h01 h41 rd h1 h2 h3 hd9
   ·exact rarr_deep w p n cp at_ en sz own B h c wd d hc2 hk h10 hwd _ _ _ _ N c1 rfl rfl rfl (by omega) (by omega) hN hc1 hok hk1 h01 h41 rd (fun s=>h1 c1 s) h3 hd9
  simp only [e3,e4] at key
  exact key
 rw [if_pos (.inl (by omega)),e1]
 exact rarr_neg w p n cp at_ en sz own B h c wd d hc2 hk h10 hwd _ _ _ _ N c1 rfl rfl rfl (by omega) (by omega) hN hc1 hok (by omega)
theorem rdata_step (p:Option Addr) (n cp:Nat) (B:List UInt8) (d:Int) (hd9:0 <= d∧d <= 32) (rv:List UInt8 -> Res) (rd:Nat -> List UInt8 -> Res)
  (hrv:RdC 59 p n cp B (d+1) rv) (hrl:∀ s v k,rv s = .ok (v,k) -> k <= s.length)
  (hrd:(RdD 88 p n cp B (d+1) rd∧(∀ c s v k,rd c s = .ok (v,k) -> k <= s.length)∧¬ (32:Int) < d+1) ∨ ((∀ c s,rd c s = .error (.pl 0 (ec 26)))∧(32:Int) < d+1)) :
  RdD 88 p n cp B d (datR rv rd):=by
 intro W c a e sz own hk h0 h4 hW
 obtain ⟨⟨v,pl,ec⟩,hA⟩:∃ A,ansR n sz own a (datR rv rd c (sOf B a e)) = A:=⟨_,rfl⟩
 rw [hA]
 unfold datR at hA
 by_cases h9:c / 16 = 9
 ·rw [if_pos h9] at hA
  exact rdata_fix W p n cp a e sz B hW own d c (by omega) v pl ec (fun W2 h2=>by
   have q:=rfixed_any W2 p n cp a e sz own B h2 c hk h0 (by omega)
   unfold fxR at q
   rw [if_neg (by omega),if_pos h9,hA] at q
   exact q)
 rw [if_neg h9] at hA
 by_cases h10:c / 16 = 10 ∨ c / 16 = 11
 ·rw [if_pos h10] at hA
  have q:∀ W2,PIn W2 p n cp a e B -> Calls prog 112 #[.agg #[.slice p n cp,.int .i64 (e:Nat),.int .i64 sz],.int .i64 (c:Int),.int .i64 (a:Nat)] W2 fun e2 w'=>RTo W2 (v,pl,ec) e2 w':=fun W2 h2=>by
   have q:=rtext_any W2 p n cp a e sz own B h2 c h10 hk
   rw [hA] at q
   exact q
  rcases codes_text c h10 hk with rfl|rfl|rfl|rfl|rfl|rfl
  ·exact rdata_160 W p n cp a e sz B hW own d v pl ec q
  ·exact rdata_161 W p n cp a e sz B hW own d v pl ec q
  ·exact rdata_163 W p n cp a e sz B hW own d v pl ec q
  ·exact rdata_176 W p n cp a e sz B hW own d v pl ec q
  ·exact rdata_177 W p n cp a e sz B hW own d v pl ec q
  ·exact rdata_179 W p n cp a e sz B hW own d v pl ec q
 rw [if_neg h10] at hA
 by_cases h12:c / 16 = 12 ∨ c / 16 = 13
 ·rw [if_pos h12] at hA
  have q:∀ W2,PIn W2 p n cp a e B -> Calls prog 113 #[.agg #[.slice p n cp,.int .i64 (e:Nat),.int .i64 sz],.int .i64 (c:Int),.int .i64 (a:Nat),.int .i64 own,.int .i64 d] W2 fun e2 w'=>RTo W2 (v,pl,ec) e2 w':=fun W2 h2=>by
   have q:=rsp_any W2 p n cp a e sz own B h2 c d h12 hk rv hrv hrl ⟨by omega,by omega⟩
   rw [hA] at q
   exact q
  rcases codes_sp h12 hk with rfl|rfl|rfl|rfl
  ·exact rdata_192 W p n cp a e sz B hW own d v pl ec q
  ·exact rdata_193 W p n cp a e sz B hW own d v pl ec q
  ·exact rdata_208 W p n cp a e sz B hW own d v pl ec q
  ·exact rdata_209 W p n cp a e sz B hW own d v pl ec q
 rw [if_neg h12] at hA
 by_cases h14:c / 16 = 14 ∨ c / 16 = 15
 ·rw [if_pos h14] at hA
  have q:∀ W2,PIn W2 p n cp a e B -> Calls prog 114 #[.agg #[.slice p n cp,.int .i64 (e:Nat),.int .i64 sz],.int .i64 (c:Int),.int .i64 (a:Nat),.int .i64 d] W2 fun e2 w'=>RTo W2 (v,pl,ec) e2 w':=fun W2 h2=>by
   have q:=rarr_any W2 p n cp a e sz own B h2 c d h14 hk rd hrd ⟨by omega,by omega⟩
   rw [hA] at q
   exact q
  rcases codes_arr h14 hk with rfl|rfl
  ·exact rdata_224 W p n cp a e sz B hW own d v pl ec q
  ·exact rdata_240 W p n cp a e sz B hW own d v pl ec q
 rw [if_neg h14] at hA
 have hlt:c < 256:=by
  rcases kindC_mem hk h0 with rfl|rfl|rfl|rfl|rfl|rfl|rfl|rfl|rfl|rfl|rfl|rfl|rfl|rfl|rfl|rfl|rfl|rfl|rfl|rfl|rfl|rfl|rfl|rfl|rfl|rfl|rfl|rfl|rfl|rfl|rfl|rfl|rfl|rfl|rfl|rfl|rfl|rfl|rfl
  all_goals decide
 exact rdata_fix W p n cp a e sz B hW own d c (by omega) v pl ec (fun W2 h2=>by
  have q:=rfixed_any W2 p n cp a e sz own B h2 c hk h0 (by omega)
  unfold fxR at q
  rw [if_neg h4,if_neg h9,hA] at q
  exact q)
theorem ans_head {n a:Nat} {sz own:Int} (y:Er):ansR n sz (a:Int) (a+1) (.error y) = ansR n sz own a (.error (headE y)):=by
 cases y with
 | short=>rfl
 | own e=>rfl
 | pl r e =>
  show (zeroV,((a+1+r:Nat):Int),e.1) = (zeroV,((a+(r+1):Nat):Int),e.1)
  rw [show a+1+r = a+(r+1) by omega]
theorem PIn.next {w:World} {p:Option Addr} {n cp at_ en:Nat} {B:List UInt8} (h:PIn w p n cp at_ en B) (k:Nat) (hk:at_+k <= en):PIn w p n cp (at_+k) en B:=⟨h.bytes,h.tabs,hk,h.hen,h.hn⟩
theorem rread_step (p:Option Addr) (n cp:Nat) (B:List UInt8) (d:Int) (hd9:0 <= d∧d <= 32) (rv:List UInt8 -> Res) (rd:Nat -> List UInt8 -> Res)
  (hrv:RdC 59 p n cp B (d+1) rv) (hrl:∀ s v k,rv s = .ok (v,k) -> k <= s.length)
  (hdat:RdD 88 p n cp B d (datR rv rd)) :
  RdC 59 p n cp B d (valR rv rd):=by
 intro W a e sz own hW
 have hle:=hW.bytes.le
 have hen:=hW.hen
 have hBl:=hW.len
 by_cases hs:a < e
 ·have hc1:=rsOf_cons (B:=B) hs (by omega)
  obtain ⟨x,hx⟩:∃ x,B.getD a 0 = x:=⟨_,rfl⟩
  rw [hx] at hc1
  rw [hc1,valR_cons]
  have hxc:(B.getD a 0).toNat = x.toNat:=by rw [hx]
  by_cases hk:kindC x.toNat < 0
  ·rw [if_pos hk]
   exact rread_code W p n cp a e sz B hW d hs x.toNat _ hxc rfl _ rfl hk
  rw [if_neg hk]
  by_cases h0:x.toNat = 0
  ·rw [if_pos h0]
   have hr1:∀ W2,PIn W2 p n cp a e B -> Calls prog 59 #[.agg #[.slice p n cp,.int .i64 (e:Nat),.int .i64 sz],.int .i64 (a+1:Nat),.int .i64 (d+1)] W2 fun e2 w'=>RTo W2 (ansR n sz own (a+1) (rv (sOf B (a+1) e))) e2 w':=fun W2 h2=>hrv W2 (a+1) e sz own (h2.next 1 (by omega))
   have hK24:kindC x.toNat = 24:=by rw [h0];rfl
   obtain ⟨A1,hA1⟩:∃ A1,rv (sOf B (a+1) e) = A1:=⟨_,rfl⟩
   rw [hA1] at hr1
   unfold pairR
   rw [hA1]
   cases A1 with
   | error y =>
    simp only
    obtain ⟨pl,ec,hy,hne⟩:=ans_err n sz own (a+1) y
    rw [hy] at hr1
    rw [ans_shift (own:=own) (sz:=sz) (n:=n) (y:=y) rfl] at hy
    rw [hy]
    exact rread_pair W p n cp a e sz B hW d hs x.toNat _ hxc rfl _ rfl zeroV pl ec hK24 (by omega) (fun W2 h2=>rpair_err1 W2 p n cp a e sz B h2 own d (a+1) ⟨by omega,by omega⟩ pl ec hne hr1)
   | ok vk =>
    obtain ⟨v,k⟩:=vk
    simp only
    have hk1:=hrl _ _ _ hA1
    rw [sOf_len (by omega)] at hk1
    have hr2:∀ W2,PIn W2 p n cp a e B -> Calls prog 59 #[.agg #[.slice p n cp,.int .i64 (e:Nat),.int .i64 sz],.int .i64 (a+1+k:Nat),.int .i64 (d+1)] W2 fun e2 w'=>RTo W2 (ansR n sz own (a+1+k) (rv (sOf B (a+1+k) e))) e2 w':=fun W2 h2=>hrv W2 (a+1+k) e sz own ((h2.next 1 (by omega)).next k (by omega))
    have hdr:(sOf B (a+1) e).drop k = sOf B (a+1+k) e:=sOf_drop
    rw [hdr]
    obtain ⟨A2,hA2⟩:∃ A2,rv (sOf B (a+1+k) e) = A2:=⟨_,rfl⟩
    rw [hA2] at hr2 ⊢
    cases A2 with
    | error y =>
     simp only
     obtain ⟨pl,ec,hy,hne⟩:=ans_err n sz own (a+1+k) y
     rw [hy] at hr2
     rw [ans_shift (own:=own) (sz:=sz) (n:=n) (at_:=a) (k:=1+k) (y:=y) (by omega)] at hy
     rw [hy]
     exact rread_pair W p n cp a e sz B hW d hs x.toNat _ hxc rfl _ rfl zeroV pl ec hK24 (by omega) (fun W2 h2=>rpair_err2 W2 p n cp a e sz B h2 own d (a+1) ⟨by omega,by omega⟩ v (a+1+k) pl ec hne hr1 hr2)
    | ok vk2 =>
     obtain ⟨v2,k2⟩:=vk2
     simp only
     have e1:ansR n sz own a (.ok (.mk 24 0 ⟨#[]⟩ [v,v2] 0,1+k+k2)) = (.mk 24 0 ⟨#[]⟩ [v,v2] 0,((a+1+k+k2:Nat):Int),0):=by
      show (_,((a+(1+k+k2):Nat):Int),(0:Int)) = _
      rw [show a+(1+k+k2) = a+1+k+k2 by omega]
     rw [e1]
     exact rread_pair W p n cp a e sz B hW d hs x.toNat _ hxc rfl _ rfl _ _ _ hK24 (by omega) (fun W2 h2=>rpair_ok W2 p n cp a e sz B h2 own d (a+1) ⟨by omega,by omega⟩ v v2 (a+1+k) (a+1+k+k2) hr1 hr2)
  rw [if_neg h0]
  have hk24:(kindC x.toNat == 24) = false:=by simp;exact fun q=>h0 (kindC_24 q)
  by_cases h4:x.toNat / 16 = 4
  ·rw [if_pos h4]
   refine rread_data W p n cp a e sz B hW d hs x.toNat _ hxc rfl _ rfl _ _ _ (a:Nat) rfl (by omega) hk24 (by omega) (fun W2 h2=>rdata_fix W2 p n cp (a+1) e sz B (h2.next 1 (by omega)) (a:Nat) d x.toNat (by omega) _ _ _ (fun W3 h3=>?_))
   have q:=rfixed_any W3 p n cp (a+1) e sz own B h3 x.toNat (by omega) h0 (by omega)
   unfold fxR at q
   rw [if_pos h4] at q
   exact q
  ·rw [if_neg h4]
   have hd1:=hdat
   have q:∀ W2,PIn W2 p n cp a e B -> _:=fun W2 h2=>hd1 W2 x.toNat (a+1) e sz (a:Nat) (by omega) h0 h4 (h2.next 1 (by omega))
   obtain ⟨A1,hA1⟩:∃ A1,datR rv rd x.toNat (sOf B (a+1) e) = A1:=⟨_,rfl⟩
   simp only [hA1] at q
   rw [hA1]
   cases A1 with
   | error y =>
    simp only
    rw [← ans_head (n:=n) (sz:=sz) (own:=own) y]
    exact rread_data W p n cp a e sz B hW d hs x.toNat _ hxc rfl _ rfl _ _ _ (a:Nat) rfl (by omega) hk24 (by omega) q
   | ok vk =>
    obtain ⟨v,k⟩:=vk
    simp only
    have e1:ansR n sz own a (.ok (v,1+k)) = (v,((a+1+k:Nat):Int),0):=by
     show (_,((a+(1+k):Nat):Int),(0:Int)) = _
     rw [show a+(1+k) = a+1+k by omega]
    rw [e1]
    exact rread_data W p n cp a e sz B hW d hs x.toNat _ hxc rfl _ rfl _ _ _ (a:Nat) rfl (by omega) hk24 (by omega) q
 rw [rsOf_end hs]
 exact rread_short W p n cp a e sz B hW d hs
theorem rread_zero (p:Option Addr) (n cp:Nat) (B:List UInt8):RdC 59 p n cp B 33 deepR:=by
 intro W a e sz own hW
 have hen:=hW.hen
 have hBl:=hW.len
 by_cases hs:a < e
 ·have hc1:=rsOf_cons (B:=B) hs (by omega)
  obtain ⟨x,hx⟩:∃ x,B.getD a 0 = x:=⟨_,rfl⟩
  rw [hx] at hc1
  rw [hc1,deepR_cons]
  have hxc:(B.getD a 0).toNat = x.toNat:=by rw [hx]
  by_cases hk:kindC x.toNat < 0
  ·rw [if_pos hk]
   exact rread_code W p n cp a e sz B hW 33 hs x.toNat _ hxc rfl _ rfl hk
  ·rw [if_neg hk]
   exact rread_deep W p n cp a e sz B hW 33 hs x.toNat _ hxc rfl _ rfl (by omega) (by decide)
 rw [rsOf_end hs]
 exact rread_short W p n cp a e sz B hW 33 hs
theorem rlevels (p:Option Addr) (n cp:Nat) (B:List UInt8):∀ m,m <= 32 -> RdC 59 p n cp B ((33 - m:Nat):Int) (rdV m)∧(1 <= m -> RdD 88 p n cp B ((33 - m:Nat):Int) (rdD m))
 | 0,_=>⟨rread_zero p n cp B,fun h=>absurd h (by decide)⟩
 | m+1,hm=>by
  obtain ⟨h1,h2⟩:=rlevels p n cp B m (by omega)
  have hd:((33 - m:Nat):Int) = ((33 - (m+1):Nat):Int)+1:=by omega
  rw [hd] at h1 h2
  have hB:=rdata_step p n cp B ((33 - (m+1):Nat):Int) ⟨by omega,by omega⟩ (rdV m) (rdD m) h1 (rdV_le m) (by
   by_cases h0:m = 0
   ·subst h0
    exact .inr ⟨fun _ _=>rfl,by decide⟩
   ·exact .inl ⟨h2 (by omega),rdD_le m,by omega⟩)
  exact ⟨rread_step p n cp B ((33 - (m+1):Nat):Int) ⟨by omega,by omega⟩ (rdV m) (rdD m) h1 (rdV_le m) hB,fun _=>hB⟩
end Go.Proofs.YtnnnfhobbnjmfaaGreatDoor
