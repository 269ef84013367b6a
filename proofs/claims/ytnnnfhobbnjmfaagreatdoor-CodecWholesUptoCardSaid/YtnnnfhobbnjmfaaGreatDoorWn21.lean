/-
  Lemmas on the codec. Conditions: as each says.
-/
import Derived.Test.YtnnnfhobbnjmfaaGreatDoorWn17
import Derived.Test.YtnnnfhobbnjmfaaGreatDoorWn20
import Derived.WalkLawsBesides
import Derived.Deep.QuietTactic
import Derived.BigQuiet
namespace Go.Proofs.YtnnnfhobbnjmfaaGreatDoor
open Go.RowKit Go.Proofs.Tryz
set_option linter.all false
set_option maxHeartbeats 40000000
set_option maxRecDepth 20000

attribute [local go_sem] Oper.semAt_some

def faultE (at_ e:Int):Ending:=.panicked [{ v:=.iface 68 (.agg #[.int .i64 at_,.int .i64 e]),recovered:=false }]
theorem wrong_any (a e:Int) (w:World):Calls prog 39 #[.int .i64 a,.int .i64 e] w fun x w'=>x = faultE a e∧w = w':=by
 go_enter func39,ntmps39
 go_wp2
 exact ⟨rfl,rfl,rfl⟩
def shP (n:Nat) (sz:Int):Int:=if sz < 0 then n else sz
def shC (sz:Int):Int:=if sz < 0 then 10 else 32
theorem mrg_need_ok (w:World) (r:Nat) (p:Option Addr) (n c at_ en:Nat) (sz:Int) (hb:w.heap[r]? = some (.cells #[.slice p n c,.int .i64 at_,.int .i64 en,.int .i64 sz] 66 (0,0))) (k:Nat) (ha:at_ <= en):(∀ (hk:at_+k <= en) (hen:en <= 140737488355328),Calls prog 56 #[.pointer (some ⟨r,0,none⟩),.int .i64 k] w fun e w'=>e = .returned (.tuple #[])∧Below w.heap.size w w') ∧
  (∀ (hk:en < at_+k) (hen:en <= 140737488355328) (hn:n <= 140737488355328),Calls prog 56 #[.pointer (some ⟨r,0,none⟩),.int .i64 k] w fun e w'=>e = faultE (shP n sz) (shC sz)∧Below w.heap.size w w'):=by
 refine ⟨?_,?_⟩
 intro hk hen
 rotate_left
 intro hk hen hn
 rotate_left
 all_goals
  have r0:w.cell? ⟨r,0,none⟩ = some (.slice p n c):=(cell_of_row _ _ 0 _ _ _ hb).trans rfl
  have r1:w.cell? ⟨r,1,none⟩ = some (.int .i64 at_):=(cell_of_row _ _ 1 _ _ _ hb).trans rfl
  have r2:w.cell? ⟨r,2,none⟩ = some (.int .i64 en):=(cell_of_row _ _ 2 _ _ _ hb).trans rfl
  have r3:w.cell? ⟨r,3,none⟩ = some (.int .i64 sz):=(cell_of_row _ _ 3 _ _ _ hb).trans rfl
 have hd:(decide ((k:Int) <= (en:Int) - at_)) = true:=by simp;omega
 rotate_left
 have hd:(decide ((k:Int) <= (en:Int) - at_)) = false:=by simp;omega
 rotate_left
 all_goals
  have h0:(at_:Int) <= en:=by omega
  have h1:(en:Int) <= 140737488355328:=by omega
  have hwr:IntKind.i64.wrap ((en:Int) - at_) = (en:Int) - at_:=IntWalk.i64_in _ (by omega)
 rotate_left
 have hns:(decide (sz < 0) = true∧shP n sz = n∧shC sz = 10) ∨ (decide (sz < 0) = false∧shP n sz = sz∧shC sz = 32):=by
  unfold shP shC
  by_cases h:sz < 0
  ·exact .inl ⟨by simp [h],by rw [if_pos h],by rw [if_pos h]⟩
  ·exact .inr ⟨by simp [h],by rw [if_neg h],by rw [if_neg h]⟩
 rotate_left
 all_goals
  clear hb
  go_enter func56,ntmps56
  go_upto_region 1 with fail
  go_quiet (fail)
  have HQ:=zH (show Below w.heap.size w (w.drewN nq) from ⟨rfl,rfl,rfl,Nat.le_refl _,fun _ _=>rfl⟩)
 ·clear hwr r0 r1 r2 r3
  go_wp2_with fail
  go_end0
  exact ⟨rfl,HQ.out⟩
 have q0:=bs_cellV HQ.out r0
 have q3:=bs_cellV HQ.out r3
 clear hwr r0 r1 r2 r3
 generalize (w.drewN nq) = w1 at *
 rcases hns with ⟨h2,h3,h4⟩|⟨h2,h3,h4⟩
 ·have HC:=zH (show ∀ W,Calls prog 39 #[.int .i64 n,.int .i64 10] W fun x w'=>x = faultE (shP n sz) (shC sz)∧W = w' from fun W=>by rw [h3,h4];exact wrong_any _ _ W)
  clear h3 h4
  go_wp2_with fail
  refine (HC.out _).mono ?_
  rintro e w2 ⟨rfl,rfl⟩
  exact ⟨rfl,rfl,HQ.out⟩
 have HC:=zH (show ∀ W,Calls prog 39 #[.int .i64 sz,.int .i64 32] W fun x w'=>x = faultE (shP n sz) (shC sz)∧W = w' from fun W=>by rw [h3,h4];exact wrong_any _ _ W)
 clear h3 h4
 go_wp2_with fail
 refine (HC.out _).mono ?_
 rintro e w2 ⟨rfl,rfl⟩
 exact ⟨rfl,rfl,HQ.out⟩
def need_ok:=fun w r p n c at_ en sz hb k ha=>(mrg_need_ok w r p n c at_ en sz hb k ha).1
def need_bad:=fun w r p n c at_ en sz hb k ha=>(mrg_need_ok w r p n c at_ en sz hb k ha).2
structure RdMv (w w':World) (r:Nat) (cs:Array Value):Prop where
 keep:KeepF (fun g=>g = r) w w'
 at_:w'.heap[r]? = some (.cells cs 66 (0,0))
def nAt (B:List UInt8) (at_ wd:Nat):Nat:=beVal ((B.drop at_).take wd)
theorem number_ok (w:World) (r:Nat) (p:Option Addr) (n c at_ en:Nat) (sz:Int) (hb:w.heap[r]? = some (.cells #[.slice p n c,.int .i64 at_,.int .i64 en,.int .i64 sz] 66 (0,0))) (B:List UInt8) (hB:BytesIn w p n c B) (wd:Nat) (h1:1 <= wd) (h8:wd <= 8) (ha:at_ <= en) (hk:at_+wd <= en) (hen:en <= n) (hn:n <= 140737488355328) :
  Calls prog 106 #[.pointer (some ⟨r,0,none⟩),.int .i64 wd] w fun e w'=>e = .returned (.int .u64 (nAt B at_ wd))∧RdMv w w' r #[.slice p n c,.int .i64 ((at_:Int)+wd),.int .i64 en,.int .i64 sz]:=by
 have hc:=need_ok w r p n c at_ en sz hb wd ha hk (by omega)
 have hg:∀ W,BytesIn W p n c B -> Calls prog 128 #[.slice p n c,.int .i64 at_,.int .i64 wd] W fun e w'=>e = .returned (.tuple #[.int .u64 (nAt B at_ wd),.int .i64 0])∧W = w':=fun W h=>get_ok W p n c B h at_ wd h1 h8 (by omega)
 have HC:=zH hc
 have HG:=zH hg
 have HB:=zH (And.intro hB hb)
 have h9:(at_:Int)+wd <= 140737488355328:=by omega
 clear hc hg hB hb
 go_enter func106,ntmps106
 go_wp2_with fail
 refine HC.out.mono ?_
 rintro e w1 ⟨rfl,hb1⟩
 have hx:=(hb1.block r (gl HB.out.2)).trans HB.out.2
 have HX:=zH hx
 have HB1:=zH hb1
 have r0:w1.cell? ⟨r,0,none⟩ = some (.slice p n c):=(cell_of_row _ _ 0 _ _ _ hx).trans rfl
 have r1:w1.cell? ⟨r,1,none⟩ = some (.int .i64 at_):=(cell_of_row _ _ 1 _ _ _ hx).trans rfl
 clear hx hb1
 go_upto_region 2 with fail
 clear r0 r1
 refine wp_region_heldN (fun V=>V.heap[r]? = some (.cells #[.slice p n c,.int .i64 at_,.int .i64 en,.int .i64 sz] 66 (0,0))) 15 rfl (by kernel_rfl) ?_
 have hS:w1.drew.heap[r]? = some (.cells #[.slice p n c,.int .i64 at_,.int .i64 en,.int .i64 sz] 66 (0,0)):=HX.out
 refine tkI 0 (.pointer (some ⟨r,0,none⟩)) 11 rfl rfl (by kernel_rfl) (fun _ _ _=>id) (by rfl) (by rintro V h0;go_simp) hS ?_
 try simp only [Act.put,sA,sB,sC]
 refine tkI 1 (.pointer (some ⟨r,0,none⟩)) 12 rfl rfl (by kernel_rfl) (fun _ _ _=>id) (by rfl) (by rintro V h0;go_simp) hS ?_
 try simp only [Act.put,sA,sB,sC]
 refine tkI 2 (.pointer (some ⟨r,0,none⟩)) 13 rfl rfl (by kernel_rfl) (fun _ _ _=>id) (by rfl) (by rintro V h0;go_simp) hS ?_
 try simp only [Act.put,sA,sB,sC]
 refine tkI 3 (.slice p n c) 14 rfl rfl (by kernel_rfl) (fun _ _ _=>id) (by rfl) (by rintro V h0;have y0:=(cell_of_row V _ 0 _ _ _ h0).trans rfl;have y1:=(cell_of_row V _ 1 _ _ _ h0).trans rfl;go_simp) hS ?_
 try simp only [Act.put,sA,sB,sC]
 refine tkI 4 (.pointer (some ⟨r,0,none⟩)) 15 rfl rfl (by kernel_rfl) (fun _ _ _=>id) (by rfl) (by rintro V h0;go_simp) hS ?_
 try simp only [Act.put,sA,sB,sC]
 refine tkI 5 (.pointer (some ⟨r,0,none⟩)) 16 rfl rfl (by kernel_rfl) (fun _ _ _=>id) (by rfl) (by rintro V h0;go_simp) hS ?_
 try simp only [Act.put,sA,sB,sC]
 refine tkI 6 (.pointer (some ⟨r,1,none⟩)) 17 rfl rfl (by kernel_rfl) (fun _ _ _=>id) (by rfl) (by rintro V h0;go_simp) hS ?_
 try simp only [Act.put,sA,sB,sC]
 refine tkI 7 (.int .i64 at_) 18 rfl rfl (by kernel_rfl) (fun _ _ _=>id) (by rfl) (by rintro V h0;have y0:=(cell_of_row V _ 0 _ _ _ h0).trans rfl;have y1:=(cell_of_row V _ 1 _ _ _ h0).trans rfl;go_simp) hS ?_
 try simp only [Act.put,sA,sB,sC]
 refine tkI 8 (.int .i64 wd) 19 rfl rfl (by kernel_rfl) (fun _ _ _=>id) (by rfl) (by rintro V h0;go_simp) hS ?_
 try simp only [Act.put,sA,sB,sC]
 refine oneH (i:=9) (by kernel_rfl) ?_
 refine stepD (i:=9) rfl (by rfl) (fun K5 h5=>?_)
 go_simp
 (with_reducible refine (HG.out w1.drew ((HB.out.1.below HB1.out).below (bdrew (Below.refl _ _)))).mono ?_)
 rintro e w3 ⟨rfl,rfl⟩
 refine h5.out _ _ hS ?_
 clear h5
 try simp only [Act.put,sA,sB,sC]
 refine tkI 10 (.tuple #[.int .u64 (nAt B at_ wd),.int .i64 0]) 10 rfl rfl (by kernel_rfl) (fun _ _ _=>id) (by rfl) (by rintro V h0;go_simp) hS ?_
 try simp only [Act.put,sA,sB,sC]
 refine tkI 11 (.int .u64 (nAt B at_ wd)) 21 rfl rfl (by kernel_rfl) (fun _ _ _=>id) (by rfl) (by rintro V h0;go_simp) hS ?_
 try simp only [Act.put,sA,sB,sC]
 refine tkI 12 (.int .i64 0) 22 rfl rfl (by kernel_rfl) (fun _ _ _=>id) (by rfl) (by rintro V h0;go_simp) hS ?_
 try simp only [Act.put,sA,sB,sC]
 refine tkI 13 (.int .u64 (nAt B at_ wd)) 5 rfl rfl (by kernel_rfl) (fun _ _ _=>id) (by rfl) (by rintro V h0;go_simp) hS ?_
 try simp only [Act.put,sA,sB,sC]
 refine tkI 14 (.int .i64 0) 6 rfl rfl (by kernel_rfl) (fun _ _ _=>id) (by rfl) (by rintro V h0;go_simp) hS ?_
 try simp only [Act.put,sA,sB,sC]
 refine wpAnyH_done (by kernel_rfl) ?_ _
 try go_at_K
 have r1':w1.drew.cell? ⟨r,1,none⟩ = some (.int .i64 at_):=(cell_of_row w1.drew _ 1 _ _ _ hS).trans rfl
 have f1:w1.drew.frozen? ⟨r,1,none⟩ = false:=by simp only [World.frozen?,hS];rfl
 go_wp2_with fail
 clear hS
 go_ret
 refine ⟨rfl,⟨⟨?_,?_,?_,?_,?_⟩,?_⟩⟩
 ·exact HB1.out.os
 ·exact HB1.out.tape
 ·exact HB1.out.output
 ·have h6:=HB1.out.size;simp;omega
 ·intro j hj hne
  have h6:=HB1.out.size
  exact (set_farV hne).trans (HB1.out.block j hj)
 exact heap_setCell_same w1.drew r 1 _ _ (.int .i64 ((at_:Int)+wd)) HX.out
theorem number_bad (w:World) (r:Nat) (p:Option Addr) (n c at_ en:Nat) (sz:Int) (hb:w.heap[r]? = some (.cells #[.slice p n c,.int .i64 at_,.int .i64 en,.int .i64 sz] 66 (0,0))) (wd:Nat) (ha:at_ <= en) (hk:en < at_+wd) (hen:en <= n) (hn:n <= 140737488355328) :
  Calls prog 106 #[.pointer (some ⟨r,0,none⟩),.int .i64 wd] w fun e w'=>e = faultE (shP n sz) (shC sz)∧Below w.heap.size w w':=by
 have hc:=need_bad w r p n c at_ en sz hb wd ha hk (by omega) hn
 have HC:=zH hc
 clear hc hb
 go_enter func106,ntmps106
 go_wp2_with fail
 refine HC.out.mono ?_
 rintro e w1 ⟨rfl,hb1⟩
 exact ⟨rfl,rfl,hb1⟩
theorem mrg_over_ok (w:World) (r:Nat) (p:Option Addr) (n c at_ en:Nat) (sz:Int) (hb:w.heap[r]? = some (.cells #[.slice p n c,.int .i64 at_,.int .i64 en,.int .i64 sz] 66 (0,0))):(∀ (h:¬ at_ < en),Calls prog 109 #[.pointer (some ⟨r,0,none⟩)] w fun e w'=>e = .returned (.tuple #[])∧Below w.heap.size w w') ∧
  (∀ (h:at_ < en),Calls prog 109 #[.pointer (some ⟨r,0,none⟩)] w fun e w'=>e = faultE sz 32∧Below w.heap.size w w'):=by
 refine ⟨?_,?_⟩
 all_goals intro h
 all_goals
  have r0:w.cell? ⟨r,0,none⟩ = some (.slice p n c):=(cell_of_row _ _ 0 _ _ _ hb).trans rfl
  have r1:w.cell? ⟨r,1,none⟩ = some (.int .i64 at_):=(cell_of_row _ _ 1 _ _ _ hb).trans rfl
  have r2:w.cell? ⟨r,2,none⟩ = some (.int .i64 en):=(cell_of_row _ _ 2 _ _ _ hb).trans rfl
  have r3:w.cell? ⟨r,3,none⟩ = some (.int .i64 sz):=(cell_of_row _ _ 3 _ _ _ hb).trans rfl
 have hd:(decide ((at_:Int) < (en:Int))) = false:=by simp;omega
 have hd2:(decide (at_ < en)) = false:=by simp;omega
 rotate_left
 have hd:(decide ((at_:Int) < (en:Int))) = true:=by simp;omega
 have hd2:(decide (at_ < en)) = true:=by simp;omega
 rotate_left
 all_goals
  clear hb h
  go_enter func109,ntmps109
  go_upto_region 0 with fail
  go_quiet (fail)
  have HQ:=zH (show Below w.heap.size w (w.drewN nq) from ⟨rfl,rfl,rfl,Nat.le_refl _,fun _ _=>rfl⟩)
 ·clear r0 r1 r2 r3
  go_wp2_with fail
  go_end0
  exact ⟨rfl,HQ.out⟩
 have q3:=bs_cellV HQ.out r3
 clear r0 r1 r2 r3
 generalize (w.drewN nq) = w1 at *
 go_wp2_with fail
 refine (wrong_any sz 32 _).mono ?_
 rintro e w2 ⟨rfl,rfl⟩
 exact ⟨rfl,rfl,HQ.out⟩
def over_ok:=fun w r p n c at_ en sz hb=>(mrg_over_ok w r p n c at_ en sz hb).1
def over_bad:=fun w r p n c at_ en sz hb=>(mrg_over_ok w r p n c at_ en sz hb).2
theorem code_cases (c:Nat):c = 0 ∨ c = 64 ∨ c = 65 ∨ c = 66 ∨ c = 86 ∨ c = 67 ∨ c = 82 ∨ c = 112 ∨ c = 68 ∨ c = 83 ∨ c = 128 ∨ c = 69 ∨ c = 192 ∨ c = 208 ∨ c = 80 ∨ c = 96 ∨ c = 81 ∨ c = 97 ∨ c = 84 ∨ c = 113 ∨ c = 85 ∨ c = 129 ∨ (c ≠ 0∧c ≠ 64∧c ≠ 65∧c ≠ 66∧c ≠ 86∧c ≠ 67∧c ≠ 82∧c ≠ 112∧c ≠ 68∧c ≠ 83∧c ≠ 128∧c ≠ 69∧c ≠ 192∧c ≠ 208∧c ≠ 80∧c ≠ 96∧c ≠ 81∧c ≠ 97∧c ≠ 84∧c ≠ 113∧c ≠ 85∧c ≠ 129):=by omega
theorem code_cases2 (c:Nat):c = 114 ∨ c = 130 ∨ c = 115 ∨ c = 116 ∨ c = 131 ∨ c = 132 ∨ c = 148 ∨ c = 152 ∨ c = 160 ∨ c = 176 ∨ c = 161 ∨ c = 177 ∨ c = 163 ∨ c = 179 ∨ c = 193 ∨ c = 209 ∨ c = 224 ∨ c = 240 ∨ (c ≠ 114∧c ≠ 130∧c ≠ 115∧c ≠ 116∧c ≠ 131∧c ≠ 132∧c ≠ 148∧c ≠ 152∧c ≠ 160∧c ≠ 176∧c ≠ 161∧c ≠ 177∧c ≠ 163∧c ≠ 179∧c ≠ 193∧c ≠ 209∧c ≠ 224∧c ≠ 240):=by omega
theorem further_any (c:Nat) (w:World) (h:c ≠ 0∧c ≠ 64∧c ≠ 65∧c ≠ 66∧c ≠ 86∧c ≠ 67∧c ≠ 82∧c ≠ 112∧c ≠ 68∧c ≠ 83∧c ≠ 128∧c ≠ 69∧c ≠ 192∧c ≠ 208∧c ≠ 80∧c ≠ 96∧c ≠ 81∧c ≠ 97∧c ≠ 84∧c ≠ 113∧c ≠ 85∧c ≠ 129) :
  Calls prog 80 #[.int .u8 (c:Int)] w fun e w'=>e = .returned (.int .i64 (kindC c))∧w = w':=by
 rcases code_cases2 c with rfl|rfl|rfl|rfl|rfl|rfl|rfl|rfl|rfl|rfl|rfl|rfl|rfl|rfl|rfl|rfl|rfl|rfl|hn
 ·clear h
  rw [show kindC 114 = 10 from rfl]
  go_enter func80,ntmps80
  go_wp2_with fail
  go_ret
  exact ⟨rfl,rfl⟩
 ·clear h
  rw [show kindC 130 = 11 from rfl]
  go_enter func80,ntmps80
  go_wp2_with fail
  go_ret
  exact ⟨rfl,rfl⟩
 ·clear h
  rw [show kindC 115 = 15 from rfl]
  go_enter func80,ntmps80
  go_wp2_with fail
  go_ret
  exact ⟨rfl,rfl⟩
 ·clear h
  rw [show kindC 116 = 12 from rfl]
  go_enter func80,ntmps80
  go_wp2_with fail
  go_ret
  exact ⟨rfl,rfl⟩
 ·clear h
  rw [show kindC 131 = 16 from rfl]
  go_enter func80,ntmps80
  go_wp2_with fail
  go_ret
  exact ⟨rfl,rfl⟩
 ·clear h
  rw [show kindC 132 = 13 from rfl]
  go_enter func80,ntmps80
  go_wp2_with fail
  go_ret
  exact ⟨rfl,rfl⟩
 ·clear h
  rw [show kindC 148 = 14 from rfl]
  go_enter func80,ntmps80
  go_wp2_with fail
  go_ret
  exact ⟨rfl,rfl⟩
 ·clear h
  rw [show kindC 152 = 17 from rfl]
  go_enter func80,ntmps80
  go_wp2_with fail
  go_ret
  exact ⟨rfl,rfl⟩
 ·clear h
  rw [show kindC 160 = 18 from rfl]
  go_enter func80,ntmps80
  go_wp2_with fail
  go_ret
  exact ⟨rfl,rfl⟩
 ·clear h
  rw [show kindC 176 = 18 from rfl]
  go_enter func80,ntmps80
  go_wp2_with fail
  go_ret
  exact ⟨rfl,rfl⟩
 ·clear h
  rw [show kindC 161 = 19 from rfl]
  go_enter func80,ntmps80
  go_wp2_with fail
  go_ret
  exact ⟨rfl,rfl⟩
 ·clear h
  rw [show kindC 177 = 19 from rfl]
  go_enter func80,ntmps80
  go_wp2_with fail
  go_ret
  exact ⟨rfl,rfl⟩
 ·clear h
  rw [show kindC 163 = 20 from rfl]
  go_enter func80,ntmps80
  go_wp2_with fail
  go_ret
  exact ⟨rfl,rfl⟩
 ·clear h
  rw [show kindC 179 = 20 from rfl]
  go_enter func80,ntmps80
  go_wp2_with fail
  go_ret
  exact ⟨rfl,rfl⟩
 ·clear h
  rw [show kindC 193 = 22 from rfl]
  go_enter func80,ntmps80
  go_wp2_with fail
  go_ret
  exact ⟨rfl,rfl⟩
 ·clear h
  rw [show kindC 209 = 22 from rfl]
  go_enter func80,ntmps80
  go_wp2_with fail
  go_ret
  exact ⟨rfl,rfl⟩
 ·clear h
  rw [show kindC 224 = 23 from rfl]
  go_enter func80,ntmps80
  go_wp2_with fail
  go_ret
  exact ⟨rfl,rfl⟩
 ·clear h
  rw [show kindC 240 = 23 from rfl]
  go_enter func80,ntmps80
  go_wp2_with fail
  go_ret
  exact ⟨rfl,rfl⟩
 have hk:kindC c = -1:=by
  unfold kindC
  rw [if_neg (by omega),if_neg (by omega),if_neg (by omega),if_neg (by omega),if_neg (by omega),if_neg (by omega),if_neg (by omega),if_neg (by omega),if_neg (by omega),if_neg (by omega),if_neg (by omega),if_neg (by omega),if_neg (by omega),if_neg (by omega),if_neg (by omega),if_neg (by omega),if_neg (by omega),if_neg (by omega),if_neg (by omega),if_neg (by omega),if_neg (by omega),if_neg (by omega),if_neg (by omega),if_neg (by omega),if_neg (by omega)]
 rw [hk]
 have n114:((c:Int) == 114) = false:=by simp;omega
 have n130:((c:Int) == 130) = false:=by simp;omega
 have n115:((c:Int) == 115) = false:=by simp;omega
 have n116:((c:Int) == 116) = false:=by simp;omega
 have n131:((c:Int) == 131) = false:=by simp;omega
 have n132:((c:Int) == 132) = false:=by simp;omega
 have n148:((c:Int) == 148) = false:=by simp;omega
 have n152:((c:Int) == 152) = false:=by simp;omega
 have n160:((c:Int) == 160) = false:=by simp;omega
 have n176:((c:Int) == 176) = false:=by simp;omega
 have n161:((c:Int) == 161) = false:=by simp;omega
 have n177:((c:Int) == 177) = false:=by simp;omega
 have n163:((c:Int) == 163) = false:=by simp;omega
 have n179:((c:Int) == 179) = false:=by simp;omega
 have n193:((c:Int) == 193) = false:=by simp;omega
 have n209:((c:Int) == 209) = false:=by simp;omega
 have n224:((c:Int) == 224) = false:=by simp;omega
 have n240:((c:Int) == 240) = false:=by simp;omega
 clear hn h hk
 go_enter func80,ntmps80
 go_wp2_with fail
 go_ret
 exact ⟨rfl,rfl⟩
theorem kind_any (c:Nat) (w:World) :
  Calls prog 57 #[.int .u8 (c:Int)] w fun e w'=>e = .returned (.int .i64 (kindC c))∧w = w':=by
 rcases code_cases c with rfl|rfl|rfl|rfl|rfl|rfl|rfl|rfl|rfl|rfl|rfl|rfl|rfl|rfl|rfl|rfl|rfl|rfl|rfl|rfl|rfl|rfl|hn
 ·rw [show kindC 0 = 24 from rfl]
  go_enter func57,ntmps57
  go_wp2_with fail
  go_ret
  exact ⟨rfl,rfl⟩
 ·rw [show kindC 64 = 0 from rfl]
  go_enter func57,ntmps57
  go_wp2_with fail
  go_ret
  exact ⟨rfl,rfl⟩
 ·rw [show kindC 65 = 1 from rfl]
  go_enter func57,ntmps57
  go_wp2_with fail
  go_ret
  exact ⟨rfl,rfl⟩
 ·rw [show kindC 66 = 1 from rfl]
  go_enter func57,ntmps57
  go_wp2_with fail
  go_ret
  exact ⟨rfl,rfl⟩
 ·rw [show kindC 86 = 1 from rfl]
  go_enter func57,ntmps57
  go_wp2_with fail
  go_ret
  exact ⟨rfl,rfl⟩
 ·rw [show kindC 67 = 4 from rfl]
  go_enter func57,ntmps57
  go_wp2_with fail
  go_ret
  exact ⟨rfl,rfl⟩
 ·rw [show kindC 82 = 4 from rfl]
  go_enter func57,ntmps57
  go_wp2_with fail
  go_ret
  exact ⟨rfl,rfl⟩
 ·rw [show kindC 112 = 4 from rfl]
  go_enter func57,ntmps57
  go_wp2_with fail
  go_ret
  exact ⟨rfl,rfl⟩
 ·rw [show kindC 68 = 5 from rfl]
  go_enter func57,ntmps57
  go_wp2_with fail
  go_ret
  exact ⟨rfl,rfl⟩
 ·rw [show kindC 83 = 5 from rfl]
  go_enter func57,ntmps57
  go_wp2_with fail
  go_ret
  exact ⟨rfl,rfl⟩
 ·rw [show kindC 128 = 5 from rfl]
  go_enter func57,ntmps57
  go_wp2_with fail
  go_ret
  exact ⟨rfl,rfl⟩
 ·rw [show kindC 69 = 21 from rfl]
  go_enter func57,ntmps57
  go_wp2_with fail
  go_ret
  exact ⟨rfl,rfl⟩
 ·rw [show kindC 192 = 21 from rfl]
  go_enter func57,ntmps57
  go_wp2_with fail
  go_ret
  exact ⟨rfl,rfl⟩
 ·rw [show kindC 208 = 21 from rfl]
  go_enter func57,ntmps57
  go_wp2_with fail
  go_ret
  exact ⟨rfl,rfl⟩
 ·rw [show kindC 80 = 2 from rfl]
  go_enter func57,ntmps57
  go_wp2_with fail
  go_ret
  exact ⟨rfl,rfl⟩
 ·rw [show kindC 96 = 3 from rfl]
  go_enter func57,ntmps57
  go_wp2_with fail
  go_ret
  exact ⟨rfl,rfl⟩
 ·rw [show kindC 81 = 6 from rfl]
  go_enter func57,ntmps57
  go_wp2_with fail
  go_ret
  exact ⟨rfl,rfl⟩
 ·rw [show kindC 97 = 7 from rfl]
  go_enter func57,ntmps57
  go_wp2_with fail
  go_ret
  exact ⟨rfl,rfl⟩
 ·rw [show kindC 84 = 8 from rfl]
  go_enter func57,ntmps57
  go_wp2_with fail
  go_ret
  exact ⟨rfl,rfl⟩
 ·rw [show kindC 113 = 8 from rfl]
  go_enter func57,ntmps57
  go_wp2_with fail
  go_ret
  exact ⟨rfl,rfl⟩
 ·rw [show kindC 85 = 9 from rfl]
  go_enter func57,ntmps57
  go_wp2_with fail
  go_ret
  exact ⟨rfl,rfl⟩
 ·rw [show kindC 129 = 9 from rfl]
  go_enter func57,ntmps57
  go_wp2_with fail
  go_ret
  exact ⟨rfl,rfl⟩
 have hc:=further_any c w hn
 have HC:=zH hc
 have n0:((c:Int) == 0) = false:=by simp;omega
 have n64:((c:Int) == 64) = false:=by simp;omega
 have n65:((c:Int) == 65) = false:=by simp;omega
 have n66:((c:Int) == 66) = false:=by simp;omega
 have n86:((c:Int) == 86) = false:=by simp;omega
 have n67:((c:Int) == 67) = false:=by simp;omega
 have n82:((c:Int) == 82) = false:=by simp;omega
 have n112:((c:Int) == 112) = false:=by simp;omega
 have n68:((c:Int) == 68) = false:=by simp;omega
 have n83:((c:Int) == 83) = false:=by simp;omega
 have n128:((c:Int) == 128) = false:=by simp;omega
 have n69:((c:Int) == 69) = false:=by simp;omega
 have n192:((c:Int) == 192) = false:=by simp;omega
 have n208:((c:Int) == 208) = false:=by simp;omega
 have n80:((c:Int) == 80) = false:=by simp;omega
 have n96:((c:Int) == 96) = false:=by simp;omega
 have n81:((c:Int) == 81) = false:=by simp;omega
 have n97:((c:Int) == 97) = false:=by simp;omega
 have n84:((c:Int) == 84) = false:=by simp;omega
 have n113:((c:Int) == 113) = false:=by simp;omega
 have n85:((c:Int) == 85) = false:=by simp;omega
 have n129:((c:Int) == 129) = false:=by simp;omega
 clear hn hc
 go_enter func57,ntmps57
 go_wp2_with fail
 refine HC.out.mono ?_
 rintro e w1 ⟨rfl,rfl⟩
 go_wp2_with fail
 go_ret
 exact ⟨rfl,rfl⟩
end Go.Proofs.YtnnnfhobbnjmfaaGreatDoor
