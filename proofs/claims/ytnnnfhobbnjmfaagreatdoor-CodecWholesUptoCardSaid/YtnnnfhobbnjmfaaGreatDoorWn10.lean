/-
  Lemmas on the codec. Conditions: as each says.
-/
import Derived.Test.YtnnnfhobbnjmfaaGreatDoorWn01
import Derived.Test.YtnnnfhobbnjmfaaGreatDoorRows
import Derived.Test.YtnnnfhobbnjmfaaGreatDoorWn07
import Derived.Test.YtnnnfhobbnjmfaaGreatDoorWn09
import Derived.Laws.CopyOwn
import Derived.Deep.Draws
namespace Go.Proofs.YtnnnfhobbnjmfaaGreatDoor
open Go.RowKit Go.Proofs.Tryz
set_option linter.all false
set_option maxHeartbeats 40000000
set_option maxRecDepth 20000

theorem info_u8:(Tryz.prog.info? 5).map (fun i=>(i.zero,i.size,i.bytes)) = some (some (.int .u8 0),1,1):=by kernel_rfl

theorem put_ok (n wd:Nat) (w:World) (h1:1 ≤ wd) (h8:wd ≤ 8) (hn:n < 18446744073709551616) :
  Calls Tryz.prog 78 #[.int .u64 n,.int .i64 wd] w fun e w' =>
   e = .returned (.slice (some ⟨w.heap.size,0,none⟩) wd wd)∧Below w.heap.size w w'∧w'.rowIs w.heap.size 5 wd (fun i=>.int .u8 (byteAt n wd i)):=by
 have hmk:=run_make_row' (P:=Tryz.prog) 28 5 (.int .u8 0) 1 Tryz.underlying28 info_u8 rfl .i64 .i64 wd (by omega) (by omega)
 go_enter Tryz.func78,Tryz.ntmps78
 go_wp2
 clear hmk
 have hrow:=World.rowIs_made w (.int .u8 0) wd 5
 have hb:Below w.heap.size w (w.alloc (.cells (madeCells #[.int .u8 0] wd) 5)):=(Below.refl _ _).alloc (Nat.le_refl _) _
 generalize (w.alloc (.cells (madeCells #[.int .u8 0] wd) 5)) = w1 at *
 go_loopw [0,6] (fun m i wr=>∃ k:Nat,k ≤ wd∧i = .int .i64 ((k:Int) - 1)∧m = .int .u64 (n / 256 ^ (wd - k):Nat)∧Below w.heap.size w wr∧wr.rowIs w.heap.size 5 wd (fun j=>.int .u8 (if k ≤ j then byteAt n wd j else 0))) (fun _ i _=>(intOf i+1).toNat)
 case atStart=>exact ⟨wd,by omega,rfl,by simp,hb,hrow.congr fun i hi=>by rw [if_neg (by omega)]⟩
 case round =>
  obtain ⟨k,hk,rfl,rfl,hB,hR⟩:=hrel
  cases k with
  | zero =>
   go_wp2
   go_ret
   exact ⟨rfl,hB,hR.congr fun i hi=>by rw [if_pos (Nat.zero_le _)]⟩
  | succ k =>
   have hc:=hR.cell (i:=k) (by omega)
   have hf:=hR.frozen k
   have hle:n / 256 ^ (wd - (k+1)) < 18446744073709551616:=Nat.lt_of_le_of_lt (Nat.div_le_self _ _) hn
   obtain ⟨m,hm⟩:∃ m,n / 256 ^ (wd - (k+1)) = m:=⟨_,rfl⟩
   have Hm:=Lib.hid hm
   rw [hm]
   rw [hm] at hle
   clear hm
   go_wp2
   go_roundw
   case rel =>
    have hm:=Hm.out
    have hd:m / 256 = n / 256 ^ (wd - k):=by
     rw [← hm,Nat.div_div_eq_div_mul,← Nat.pow_succ]
     congr 2;omega
    have hby:byteAt n wd k = m % 256:=by
     rw [← hm];unfold byteAt;congr 3;omega
    refine ⟨k,by omega,rfl,by rw [← hd];rfl,hB.setCell (Nat.le_refl _) _,(hR.set k _).congr fun j hj=>?_⟩
    by_cases e:j = k
    ·subst e
     rw [if_pos rfl,if_pos (Nat.le_refl _),hby];rfl
    ·rw [if_neg e]
     by_cases h2:k+1 ≤ j
     ·rw [if_pos h2,if_pos (by omega)]
     ·rw [if_neg h2,if_neg (by omega)]
   case measure=>simp [intOf]

theorem put_bytes (n wd:Nat) (w:World) (h1:1 ≤ wd) (h8:wd ≤ 8) (hn:n < 18446744073709551616) :
  Calls Tryz.prog 78 #[.int .u64 n,.int .i64 wd] w fun e w' =>
   e = .returned (.slice (some ⟨w.heap.size,0,none⟩) wd wd)∧Below w.heap.size w w'∧BytesIn w' (some ⟨w.heap.size,0,none⟩) wd wd (putL n wd) :=
 (put_ok n wd w h1 h8 hn).mono fun e w' ⟨he,hb,hr⟩=>⟨he,hb,rowIs_bytes (putL n wd) hr (putL_length n wd) (by unfold maxLen;omega) fun i hi=>by rw [putL_getD n wd i hi]⟩

theorem get_ok (w:World) (a:Option Addr) (n c:Nat) (l:List UInt8) (h:BytesIn w a n c l) (at_ wd:Nat) (h1:1 ≤ wd) (h8:wd ≤ 8) (hat:at_+wd ≤ n) :
  Calls Tryz.prog 128 #[.slice a n c,.int .i64 at_,.int .i64 wd] w fun e w' =>
   e = .returned (.tuple #[.int .u64 (beVal ((l.drop at_).take wd)),.int .i64 0])∧w = w':=by
 obtain ⟨hl,hnc,hcm,hat_⟩:=h
 obtain ⟨b,o,rfl,hb,hcell⟩:=hat_ (by omega)
 unfold maxLen at hcm
 have HL:=Lib.hid hl
 clear hl
 go_enter Tryz.func128,Tryz.ntmps128
 go_wp2
 go_loop [8,42] (fun m i=>∃ k:Nat,k ≤ wd∧i = .int .i64 k∧m = .int .u64 (beVal ((l.drop at_).take k))) (fun _ i=>wd - (intOf i).toNat)
 case atStart=>exact ⟨0,by omega,rfl,rfl⟩
 case round =>
  obtain ⟨k,hk,rfl,rfl⟩:=hrel
  by_cases hlt:k < wd
  ·have hc:=hcell (at_+k) (by omega)
   rw [← Nat.add_assoc] at hc
   have hs:=beVal_snoc ((l.drop at_).take k) (l.getD (at_+k) 0)
   rw [← drop_take_succ l at_ k (by rw [HL.out];omega)] at hs
   have hm:256 * beVal ((l.drop at_).take k)+255 < 18446744073709551616:=by
    have h0:=beVal_lt ((l.drop at_).take k)
    have h2:256 ^ ((l.drop at_).take k).length ≤ 256 ^ 7:=Nat.pow_le_pow_right (by omega) (by rw [List.length_take];omega)
    omega
   have hx:=(l.getD (at_+k) 0).toNat_lt
   obtain ⟨y,hy⟩:∃ y,(l.getD (at_+k) 0).toNat = y:=⟨_,rfl⟩
   obtain ⟨m,hm'⟩:∃ m,beVal ((l.drop at_).take k) = m:=⟨_,rfl⟩
   rw [hy] at hc hx hs
   rw [hm'] at hm hs ⊢
   have HS:=Lib.hid hs
   clear hs hy hm' hcell
   go_wp2
   go_round
   case rel=>exact ⟨k+1,by omega,by go_num,by rw [HS.out,shl8_or m y hm hx]⟩
   case measure=>simp [intOf];omega
  ·obtain rfl:wd = k:=by omega
   go_wp2
   go_ret2
   exact ⟨rfl,rfl⟩


attribute [local go_sem] Oper.semAt_some

/-! ### numbers out of bytes -/
theorem rnumber_any (w:World) (a:Option Addr) (n c:Nat) (l:List UInt8) (h:BytesIn w a n c l) (h8:n <= 8) :
  Calls prog 95 #[.slice a n c] w fun e w'=>e = .returned (.int .u64 (beVal l))∧w = w':=by
 obtain ⟨hl,hnc,hcm,hat_⟩:=h
 unfold maxLen at hcm
 have HL:=zH hl
 have HA:=zH hat_
 clear hl hat_
 go_enter func95,ntmps95
 go_wp2
 go_loop [3,4] (fun m i=>∃ k:Nat,k <= n∧i = .int .i64 k∧m = .int .u64 (beVal (l.take k))) (fun _ i=>n - (intOf i).toNat)
 case atStart=>exact ⟨0,by omega,rfl,rfl⟩
 obtain ⟨k,hk,rfl,rfl⟩:=hrel
 by_cases hlt:k < n
 ·obtain ⟨b,o,rfl,hb,hcell⟩:=HA.out (by omega)
  have hc:=hcell k (by omega)
  have hs:=beVal_snoc (l.take k) (l.getD k 0)
  rw [← take_succ_getD l k (by rw [HL.out];omega)] at hs
  have hm:256 * beVal (l.take k)+255 < 18446744073709551616:=by
   have h0:=beVal_lt (l.take k)
   have h2:256 ^ (l.take k).length <= 256 ^ 7:=Nat.pow_le_pow_right (by omega) (by rw [List.length_take];omega)
   omega
  have hx:=(l.getD k 0).toNat_lt
  obtain ⟨y,hy⟩:∃ y,(l.getD k 0).toNat = y:=⟨_,rfl⟩
  obtain ⟨m,hm'⟩:∃ m,beVal (l.take k) = m:=⟨_,rfl⟩
  rw [hy] at hc hx hs
  rw [hm'] at hm hs ⊢
  have HS:=zH hs
  clear hs hy hm' hcell
  go_wp2
  go_round
  case rel=>exact ⟨k+1,by omega,by go_num,by rw [HS.out,shl8_or m y hm hx]⟩
  case measure=>simp [intOf];omega
 obtain rfl:n = k:=by omega
 have HE:=zH (show l.take n = l by rw [List.take_of_length_le (by rw [HL.out];omega)])
 go_wp2
 go_ret
 exact ⟨(by rw [HE.out];rfl),rfl⟩
theorem rnumber_some (w:World) (a:Option Addr) (n c:Nat) (l:List UInt8) (h:BytesIn w a n c l) :
  Calls prog 95 #[.slice a n c] w fun e w'=>(∃ m:Int,e = .returned (.int .u64 m))∧w = w':=by
 obtain ⟨hl,hnc,hcm,hat_⟩:=h
 unfold maxLen at hcm
 have HL:=zH hl
 have HA:=zH hat_
 clear hl hat_
 go_enter func95,ntmps95
 go_wp2
 go_loop [3,4] (fun m i=>∃ k:Nat,k <= n∧i = .int .i64 k∧∃ z:Int,m = .int .u64 z) (fun _ i=>n - (intOf i).toNat)
 case atStart=>exact ⟨0,by omega,rfl,0,rfl⟩
 obtain ⟨k,hk,rfl,z,rfl⟩:=hrel
 by_cases hlt:k < n
 ·obtain ⟨b,o,rfl,hb,hcell⟩:=HA.out (by omega)
  have hc:=hcell k (by omega)
  have hx:=(l.getD k 0).toNat_lt
  obtain ⟨y,hy⟩:∃ y,(l.getD k 0).toNat = y:=⟨_,rfl⟩
  rw [hy] at hc hx
  clear hy hcell
  go_wp2
  go_round
  case rel=>exact ⟨k+1,by omega,by go_num,_,rfl⟩
  case measure=>simp [intOf];omega
 obtain rfl:n = k:=by omega
 go_wp2
 go_ret
 exact ⟨⟨_,rfl⟩,rfl⟩
/-! ### widths -/
def widR (c:Nat):Int:=if c / 16 = 4 then 0 else if c / 16 <= 9 then widC c else -1
theorem kindC_mem {c:Nat} (h:0 <= kindC c) (h0:c ≠ 0):c = 64 ∨ c = 65 ∨ c = 66 ∨ c = 86 ∨ c = 80 ∨ c = 96 ∨ c = 67 ∨ c = 82 ∨ c = 112 ∨ c = 68 ∨ c = 83 ∨ c = 128 ∨ c = 81 ∨ c = 97 ∨ c = 84 ∨ c = 113 ∨ c = 85 ∨ c = 129 ∨ c = 114 ∨ c = 130 ∨ c = 116 ∨ c = 132 ∨ c = 148 ∨ c = 115 ∨ c = 131 ∨ c = 152 ∨ c = 160 ∨ c = 176 ∨ c = 161 ∨ c = 177 ∨ c = 163 ∨ c = 179 ∨ c = 69 ∨ c = 192 ∨ c = 208 ∨ c = 193 ∨ c = 209 ∨ c = 224 ∨ c = 240:=by
 unfold kindC at h
 repeat' split at h
 all_goals first|omega|(revert h;decide)
theorem rwidth_any (c:Nat) (w:World) (h:0 <= kindC c) (h0:c ≠ 0):Calls prog 94 #[.int .i64 (c:Int)] w fun e w'=>e = .returned (.int .i64 (widR c))∧w = w':=by
 have hm:=kindC_mem h h0
 clear h h0
 rcases hm with rfl|rfl|rfl|rfl|rfl|rfl|rfl|rfl|rfl|rfl|rfl|rfl|rfl|rfl|rfl|rfl|rfl|rfl|rfl|rfl|rfl|rfl|rfl|rfl|rfl|rfl|rfl|rfl|rfl|rfl|rfl|rfl|rfl|rfl|rfl|rfl|rfl|rfl|rfl
 all_goals
  go_enter func94,ntmps94
  go_wp2_with fail
  go_ret
  exact ⟨rfl,rfl⟩
theorem wide_mem {c:Nat} (h:0 <= kindC c) (h1:10 <= c / 16):c = 160 ∨ c = 176 ∨ c = 161 ∨ c = 177 ∨ c = 163 ∨ c = 179 ∨ c = 192 ∨ c = 208 ∨ c = 193 ∨ c = 209 ∨ c = 224 ∨ c = 240:=by
 rcases kindC_mem h (by omega) with rfl|rfl|rfl|rfl|rfl|rfl|rfl|rfl|rfl|rfl|rfl|rfl|rfl|rfl|rfl|rfl|rfl|rfl|rfl|rfl|rfl|rfl|rfl|rfl|rfl|rfl|rfl|rfl|rfl|rfl|rfl|rfl|rfl|rfl|rfl|rfl|rfl|rfl|rfl
 all_goals first|omega|simp at h1
theorem rwide_any (c:Nat) (w:World) (h:0 <= kindC c) (h1:10 <= c / 16):Calls prog 64 #[.int .i64 (c:Int)] w fun e w'=>e = .returned (.int .i64 (wOf c:Nat))∧w = w':=by
 have hm:=wide_mem h h1
 clear h h1
 rcases hm with rfl|rfl|rfl|rfl|rfl|rfl|rfl|rfl|rfl|rfl|rfl|rfl
 all_goals
  go_enter func64,ntmps64
  go_wp2_with fail
  go_ret
  exact ⟨rfl,rfl⟩
/-! ### kinds and letters -/
def sgnK (k:Int):Bool:=k == 6 || k == 7 || k == 8 || k == 9 || k == 16
theorem rsigned_kind (k:Int) (w:World):Calls prog 96 #[.int .i64 k] w fun e w'=>e = .returned (.bool (sgnK k))∧w = w':=by
 go_enter func96,ntmps96
 go_wp2_with fail
 all_goals
  go_ret
  refine ⟨?_,rfl⟩
  simp [sgnK, *]
theorem rchar_any (n:Nat) (w:World) (hn:n < 18446744073709551616):Calls prog 133 #[.int .u64 (n:Int)] w fun e w'=>e = .returned (.bool (isCh n))∧w = w':=by
 by_cases h1:n <= 1114111
 ·by_cases h2:n < 55296
  ·rw [show isCh n = true by unfold isCh;simp;omega]
   have d1:(n:Int) <= 1114111:=by omega
   have d2:(n:Int) < 55296:=by omega
   go_enter func133,ntmps133
   go_wp2_with fail
   go_ret
   exact ⟨rfl,rfl⟩
  ·by_cases h3:57343 < n
   ·rw [show isCh n = true by unfold isCh;simp;omega]
    have d1:(n:Int) <= 1114111:=by omega
    have d2:¬ (n:Int) < 55296:=by omega
    have d3:(57343:Int) < n:=by omega
    go_enter func133,ntmps133
    go_wp2_with fail
    go_ret
    exact ⟨rfl,rfl⟩
   ·rw [show isCh n = false by unfold isCh;simp;omega]
    have d1:(n:Int) <= 1114111:=by omega
    have d2:¬ (n:Int) < 55296:=by omega
    have d3:¬ (57343:Int) < n:=by omega
    go_enter func133,ntmps133
    go_wp2_with fail
    go_ret
    exact ⟨rfl,rfl⟩
 rw [show isCh n = false by unfold isCh;simp;omega]
 have d1:¬ (n:Int) <= 1114111:=by omega
 go_enter func133,ntmps133
 go_wp2_with fail
 go_ret
 exact ⟨rfl,rfl⟩

attribute [local go_sem] Oper.semAt_some

def codesL (k:Nat):List Nat :=
 match k with
 | 0=>[64]
 | 1=>[65,66,86]
 | 2=>[80]
 | 3=>[96]
 | 4=>[67,82,112]
 | 5=>[68,83,128]
 | 6=>[81]
 | 7=>[97]
 | 8=>[84,113]
 | 9=>[85,129]
 | 10=>[114]
 | 11=>[130]
 | 12=>[116]
 | 13=>[132]
 | 14=>[148]
 | 15=>[115]
 | 16=>[131]
 | 17=>[152]
 | 18=>[160,176]
 | 19=>[161,177]
 | 20=>[163,179]
 | 21=>[69,192,208]
 | 22=>[193,209]
 | 23=>[224,240]
 | 24=>[0]
 | _=>[]
def CodesAt (w:World) (b:Nat) (l:List Nat):Prop:=∀ i,i < l.length -> w.cell? ⟨b,i,none⟩ = some (.int .i64 (l.getD i 0:Nat))
theorem CodesAt.below {w w':World} {b:Nat} {l:List Nat} (h:CodesAt w b l) (hb:Below w.heap.size w w'):CodesAt w' b l:=fun i hi=>bs_cellV hb (h i hi)
theorem codesAt_new (w:World) (cs:List Value) (t:TypeId) (l:List Nat) (h:cs = l.map (fun c=>Value.int .i64 (c:Nat))):CodesAt (w.alloc (.cells cs.toArray t)) w.heap.size l:=by
 intro i hi
 subst h
 rw [cell_of_row _ _ i _ _ _ (zN _ _)]
 simp [hi,List.getD_eq_getElem?_getD]
theorem codesL_len (k:Nat) (hk:k <= 24):(codesL k).length <= 3:=by
 have hm:k = 0 ∨ k = 1 ∨ k = 2 ∨ k = 3 ∨ k = 4 ∨ k = 5 ∨ k = 6 ∨ k = 7 ∨ k = 8 ∨ k = 9 ∨ k = 10 ∨ k = 11 ∨ k = 12 ∨ k = 13 ∨ k = 14 ∨ k = 15 ∨ k = 16 ∨ k = 17 ∨ k = 18 ∨ k = 19 ∨ k = 20 ∨ k = 21 ∨ k = 22 ∨ k = 23 ∨ k = 24:=by omega
 rcases hm with rfl|rfl|rfl|rfl|rfl|rfl|rfl|rfl|rfl|rfl|rfl|rfl|rfl|rfl|rfl|rfl|rfl|rfl|rfl|rfl|rfl|rfl|rfl|rfl|rfl <;> decide
def CodesTo (w:World) (l:List Nat) (e:Ending) (w':World):Prop:=∃ b,e = .returned (.slice (some ⟨b,0,none⟩) l.length l.length)∧CodesAt w' b l∧Below w.heap.size w w'
theorem rfurther_any (k:Nat) (w:World) (h:12 <= k) (h2:k <= 24):Calls prog 61 #[.int .i64 (k:Int)] w fun e w'=>CodesTo w (codesL k) e w':=by
 have hm:k = 12 ∨ k = 13 ∨ k = 14 ∨ k = 15 ∨ k = 16 ∨ k = 17 ∨ k = 18 ∨ k = 19 ∨ k = 20 ∨ k = 21 ∨ k = 22 ∨ k = 23 ∨ k = 24:=by omega
 clear h h2
 rcases hm with rfl|rfl|rfl|rfl|rfl|rfl|rfl|rfl|rfl|rfl|rfl|rfl|rfl
 all_goals
  go_enter func61,ntmps61
  go_wp2_with fail
  go_ret
  exact ⟨w.heap.size,rfl,codesAt_new w _ _ _ rfl,(Below.refl _ _).alloc (Nat.le_refl _) _⟩
theorem rcodes_any (k:Nat) (w:World) (h2:k <= 24):Calls prog 45 #[.int .i64 (k:Int)] w fun e w'=>CodesTo w (codesL k) e w':=by
 by_cases hm:k < 12
 ·have hm:k = 0 ∨ k = 1 ∨ k = 2 ∨ k = 3 ∨ k = 4 ∨ k = 5 ∨ k = 6 ∨ k = 7 ∨ k = 8 ∨ k = 9 ∨ k = 10 ∨ k = 11:=by omega
  clear h2
  rcases hm with rfl|rfl|rfl|rfl|rfl|rfl|rfl|rfl|rfl|rfl|rfl|rfl
  all_goals
   go_enter func45,ntmps45
   go_wp2_with fail
   go_ret
   exact ⟨w.heap.size,rfl,codesAt_new w _ _ _ rfl,(Below.refl _ _).alloc (Nat.le_refl _) _⟩
 ·have HC:=zH (rfurther_any k w (by omega) h2)
  generalize codesL k = l at *
  have hm:k = 12 ∨ k = 13 ∨ k = 14 ∨ k = 15 ∨ k = 16 ∨ k = 17 ∨ k = 18 ∨ k = 19 ∨ k = 20 ∨ k = 21 ∨ k = 22 ∨ k = 23 ∨ k = 24:=by omega
  clear h2
  rcases hm with rfl|rfl|rfl|rfl|rfl|rfl|rfl|rfl|rfl|rfl|rfl|rfl|rfl
  all_goals
   go_enter func45,ntmps45
   go_wp2_with fail
   refine HC.out.mono ?_
   rintro e w1 ⟨b,rfl,ha,hb⟩
   have H1:=zH (And.intro ha hb)
   clear ha hb
   go_wp2_with fail
   go_ret
   exact ⟨b,rfl,H1.out.1,H1.out.2⟩
/-! ### the kind of a constructor -/
theorem codes_kind (k:Nat) (hk:k <= 24) (c:Nat) (hc:c ∈ codesL k):kindC c = k:=by
 have hm:k = 0 ∨ k = 1 ∨ k = 2 ∨ k = 3 ∨ k = 4 ∨ k = 5 ∨ k = 6 ∨ k = 7 ∨ k = 8 ∨ k = 9 ∨ k = 10 ∨ k = 11 ∨ k = 12 ∨ k = 13 ∨ k = 14 ∨ k = 15 ∨ k = 16 ∨ k = 17 ∨ k = 18 ∨ k = 19 ∨ k = 20 ∨ k = 21 ∨ k = 22 ∨ k = 23 ∨ k = 24:=by omega
 rcases hm with rfl|rfl|rfl|rfl|rfl|rfl|rfl|rfl|rfl|rfl|rfl|rfl|rfl|rfl|rfl|rfl|rfl|rfl|rfl|rfl|rfl|rfl|rfl|rfl|rfl
 all_goals
  simp only [codesL,List.mem_cons,List.not_mem_nil,or_false] at hc
  first
   | (subst hc;rfl)
   | (rcases hc with rfl|rfl <;> rfl)
   | (rcases hc with rfl|rfl|rfl <;> rfl)
theorem kind_codes (c:Nat) (h:0 <= kindC c):∃ k,k <= 24∧c ∈ codesL k:=by
 by_cases h0:c = 0
 ·exact ⟨24,by decide,by subst h0;decide⟩
 refine ⟨(kindC c).toNat,?_⟩
 rcases kindC_mem h h0 with rfl|rfl|rfl|rfl|rfl|rfl|rfl|rfl|rfl|rfl|rfl|rfl|rfl|rfl|rfl|rfl|rfl|rfl|rfl|rfl|rfl|rfl|rfl|rfl|rfl|rfl|rfl|rfl|rfl|rfl|rfl|rfl|rfl|rfl|rfl|rfl|rfl|rfl|rfl <;> decide
theorem rkind_any (c:Nat) (w:World) (hc:c < 256):Calls prog 86 #[.int .i64 (c:Int)] w fun e w'=>e = .returned (.int .i64 (kindC c))∧Below w.heap.size w w':=by
 have HC:=zH rcodes_any
 go_enter func86,ntmps86
 go_wp2_with fail
 go_loopw [3] (fun v3 wr=>∃ k:Nat,k <= 25∧v3 = .int .i64 k∧(∀ j,j < k -> c ∉ codesL j)∧Below w.heap.size w wr) (fun v3 _=>25 - (intOf v3).toNat)
 case atStart=>exact ⟨0,by omega,rfl,fun j hj=>by omega,Below.refl _ _⟩
 obtain ⟨k,hk,rfl,hno,hbw⟩:=hrel
 have HR:=zH (And.intro hno hbw)
 clear hno hbw
 by_cases hlt:k < 25
 ·have hlt2:(k:Int) <= 24:=by omega
  have hcc:=HC.out k wr (by omega)
  have HK:=zH (fun hh=>codes_kind k (by omega) c hh)
  have hl3:=codesL_len k (by omega)
  have HS:=zH (show c ∉ codesL k -> ∀ j,j < k+1 -> c ∉ codesL j from fun q j hj=>by
   by_cases e:j = k
   ·subst e;exact q
   ·exact HR.out.1 j (by omega))
  generalize codesL k = l at hcc HK hl3 HS
  have HCC:=zH hcc
  clear hcc
  go_wp2_with fail
  refine HCC.out.mono ?_
  rintro e w1 ⟨b,rfl,ha,hb1⟩
  have H1:=zH (And.intro ha (HR.out.2.trans (hb1.mono HR.out.2.size)))
  obtain ⟨N,hN⟩:∃ N,l.length = N:=⟨_,rfl⟩
  rw [hN] at hl3 ⊢
  have HN:=zH hN
  clear ha hb1 hN HCC
  go_wp2_with fail
  go_loopw [5] (fun v5 wq=>∃ i:Nat,i <= N∧v5 = .int .i64 i∧(∀ j,j < i -> l.getD j 0 ≠ c)∧wq = w1) (fun v5 _=>N - (intOf v5).toNat)
  case atStart=>exact ⟨0,by omega,rfl,fun j hj=>by omega,rfl⟩
  case round =>
   obtain ⟨i,hi,rfl,hne,rfl⟩:=hrel
   have HI:=zH hne
   clear hne
   by_cases hiN:i < N
   ·have hiN2:(i:Int) < N:=by omega
    have x0:=H1.out.1 i (by rw [HN.out];exact hiN)
    have HX:=zH (show l.getD i 0 ∈ l from by rw [List.getD_eq_getElem?_getD,List.getElem?_eq_getElem (by rw [HN.out];exact hiN)];exact List.getElem_mem _)
    have HJ:=zH (show ∀ j,j < i+1 -> l.getD i 0 ≠ c -> l.getD j 0 ≠ c from fun j hj q=>by
     by_cases e:j = i
     ·subst e;exact q
     ·exact HI.out j (by omega))
    obtain ⟨x,hx⟩:∃ x,l.getD i 0 = x:=⟨_,rfl⟩
    rw [hx] at x0 HX HJ
    clear hx
    by_cases hxc:x = c
    ·have hxc_t:((x:Int) == (c:Int)) = true:=by simp [hxc]
     have HE:=zH (HK.out (hxc ▸ HX.out))
     clear hxc
     go_wp2_with fail
     go_ret
     exact ⟨(by rw [HE.out];rfl),H1.out.2⟩
    ·have hxc_t:((x:Int) == (c:Int)) = false:=by simp;omega
     have HE:=zH hxc
     clear hxc
     go_wp2_with fail
     go_roundw
     case rel=>exact ⟨i+1,by omega,by go_num,fun j hj=>HJ.out j hj HE.out,by first|trivial|rfl⟩
     case measure=>simp [intOf];omega
   ·obtain rfl:N = i:=by omega
    have HE:=zH (show c ∉ l from fun q=>by
     obtain ⟨j,hj,e⟩:=List.mem_iff_getElem.1 q
     exact HI.out j (by rw [← HN.out];exact hj) (by rw [List.getD_eq_getElem?_getD,List.getElem?_eq_getElem hj];exact e))
    go_wp2_with fail
    go_roundw
    case rel=>exact ⟨k+1,by omega,by go_num,HS.out HE.out,H1.out.2⟩
    case measure=>simp [intOf];omega
 have hlt2:¬ (k:Int) <= 24:=by omega
 have HE:=zH (show kindC c = -1 from by
  by_cases h:0 <= kindC c
  ·obtain ⟨j,hj,hcj⟩:=kind_codes c h
   exact absurd hcj (HR.out.1 j (by omega))
  ·unfold kindC at h ⊢
   repeat' split at h
   all_goals first|omega|(exfalso;revert h;decide)|simp [*])
 go_wp2_with fail
 go_ret
 exact ⟨(by rw [HE.out];rfl),HR.out.2⟩

structure Blk (w:World) (b T:Nat) (l:List UInt8):Prop where
 blk:w.heap[b]? = some (.cells (l.map byteV).toArray T (0,0))

theorem Blk.lt {w:World} {b T:Nat} {l:List UInt8} (h:Blk w b T l):b < w.heap.size:=(Array.getElem?_eq_some_iff.1 h.blk).1
theorem Blk.of_block {w w':World} {b T:Nat} {l:List UInt8} (h:Blk w b T l) (e:w'.heap[b]? = w.heap[b]?):Blk w' b T l:=⟨e.trans h.blk⟩
theorem Blk.below {w w':World} {b T:Nat} {l:List UInt8} (h:Blk w b T l) (hb:Below w.heap.size w w'):Blk w' b T l:=h.of_block (hb.block b h.lt)
theorem Blk.drewN {w:World} {b T:Nat} {l:List UInt8} (h:Blk w b T l) (m:Nat):Blk (w.drewN m) b T l:=⟨h.blk⟩
theorem Blk.cell {w:World} {b T:Nat} {l:List UInt8} (h:Blk w b T l) (i:Nat) (hi:i < l.length):w.cell? ⟨b,i,none⟩ = some (.int .u8 (l.getD i 0).toNat):=by
 simp only [World.cell?,h.blk,Option.isSome_none,Bool.false_eq_true,if_false]
 simp [byteV,List.getD_eq_getElem?_getD,hi]
theorem Blk.frozen {w:World} {b T:Nat} {l:List UInt8} (h:Blk w b T l) (i:Nat):w.frozen? ⟨b,i,none⟩ = false:=by
 simp [World.frozen?,h.blk]
theorem Blk.set {w:World} {b T:Nat} {l:List UInt8} (h:Blk w b T l) (i:Nat) (x:UInt8):Blk (w.setCell ⟨b,i,none⟩ (.int .u8 (x.toNat:Int))) b T (l.set i x):=by
 refine ⟨?_⟩
 simp only [World.setCell,Array.getElem?_modify,h.blk,if_true,Option.map_some,Option.isSome_none,Bool.false_eq_true,if_false]
 congr 2
 simp [byteV]
theorem Blk.bytes {w:World} {b T:Nat} {l:List UInt8} (h:Blk w b T l) (off n c:Nat) (hn:off+n ≤ l.length) (hc:n ≤ c) (hm:c ≤ maxLen) :
  BytesIn w (some ⟨b,off,none⟩) n c ((l.drop off).take n):=by
 refine ⟨by rw [List.length_take,List.length_drop];omega,hc,hm,fun _=>⟨b,off,rfl,h.lt,fun i hi=>?_⟩⟩
 rw [h.cell (off+i) (by omega)]
 simp only [List.getD_eq_getElem?_getD,List.getElem?_take,if_pos hi,List.getElem?_drop]
theorem Blk.all {w:World} {b T:Nat} {l:List UInt8} (h:Blk w b T l) (n c:Nat) (hn:n = l.length) (hc:n ≤ c) (hm:c ≤ maxLen):BytesIn w (some ⟨b,0,none⟩) n c l:=by
 have:=h.bytes 0 n c (by omega) hc hm
 rwa [List.drop_zero,List.take_of_length_le (by omega)] at this
theorem Blk.made (w:World) (n T:Nat):Blk (w.alloc (.cells (madeCells #[.int .u8 0] n) T)) w.heap.size T (List.replicate n 0):=by
 obtain ⟨c,h1,h2,h3⟩:=World.rowIs_made w (.int .u8 0) n T
 refine ⟨h1.trans ?_⟩
 congr 2
 apply Array.ext
 ·simp [h2]
 ·intro i hi1 hi2
  have:=h3 i (by omega)
  rw [Array.getElem?_eq_getElem hi1] at this
  simp only [Option.some.injEq] at this
  rw [this]
  simp [byteV]
theorem Blk.of_cells {w:World} {b T:Nat} {l:List UInt8} {c:Array Value} (h:w.heap[b]? = some (.cells c T (0,0))) (e:c = (l.map byteV).toArray):Blk w b T l:=⟨by rw [h,e]⟩


def SameOrNew (w:World) (v v':Value):Prop:=v'.ownBlock = v.ownBlock ∨ ∃ g,v'.ownBlock = some g∧w.heap.size ≤ g


attribute [local go_sem] Oper.semAt_some

/-! ### two's complements -/
def sgnX (wd n:Nat):Int:=if wd < 8∧256 ^ wd / 2 <= n then (n:Int)+18446744073709551616 - (256 ^ wd:Nat) else n
theorem sgnX_eq {k:Int} (wd n:Nat) (h:k = 6 ∨ k = 7 ∨ k = 8 ∨ k = 9 ∨ (k = 16∧wd = 8)):sgnX wd n = sgnW k wd n:=by
 unfold sgnX sgnW
 by_cases q:wd < 8∧256 ^ wd / 2 <= n
 ·rw [if_pos q,if_pos ⟨by omega,q⟩]
 ·rw [if_neg q,if_neg (fun r=>q r.2)]
theorem high_1 (l:List UInt8) (h:l.length = 1):128 <= (l.getD 0 0).toNat ↔ 128 <= beVal l:=by
 match l,h with
 | [x0],_ =>
  have h0:=UInt8.toNat_lt x0
  simp only [beVal,List.foldl,List.getD_cons_zero]
  omega
theorem high_2 (l:List UInt8) (h:l.length = 2):128 <= (l.getD 0 0).toNat ↔ 32768 <= beVal l:=by
 match l,h with
 | [x0,x1],_ =>
  have h0:=UInt8.toNat_lt x0
  have h1:=UInt8.toNat_lt x1
  simp only [beVal,List.foldl,List.getD_cons_zero]
  omega
theorem high_4 (l:List UInt8) (h:l.length = 4):128 <= (l.getD 0 0).toNat ↔ 2147483648 <= beVal l:=by
 match l,h with
 | [x0,x1,x2,x3],_ =>
  have h0:=UInt8.toNat_lt x0
  have h1:=UInt8.toNat_lt x1
  have h2:=UInt8.toNat_lt x2
  have h3:=UInt8.toNat_lt x3
  simp only [beVal,List.foldl,List.getD_cons_zero]
  omega
theorem mrg_rsigned_1_1 (w:World) (a:Option Addr) (c:Nat) (l:List UInt8):(∀ (h:BytesIn w a 1 c l) (hx:128 <= (l.getD 0 0).toNat),Calls prog 97 #[.slice a 1 c] w fun e w'=>e = .returned (.int .u64 (sgnX 1 (beVal l)))∧w = w') ∧
  (∀ (h:BytesIn w a 1 c l) (hx:¬ 128 <= (l.getD 0 0).toNat),Calls prog 97 #[.slice a 1 c] w fun e w'=>e = .returned (.int .u64 (sgnX 1 (beVal l)))∧w = w') ∧
  (∀ (h:BytesIn w a 2 c l) (hx:128 <= (l.getD 0 0).toNat),Calls prog 97 #[.slice a 2 c] w fun e w'=>e = .returned (.int .u64 (sgnX 2 (beVal l)))∧w = w') ∧
  (∀ (h:BytesIn w a 2 c l) (hx:¬ 128 <= (l.getD 0 0).toNat),Calls prog 97 #[.slice a 2 c] w fun e w'=>e = .returned (.int .u64 (sgnX 2 (beVal l)))∧w = w') ∧
  (∀ (h:BytesIn w a 4 c l) (hx:128 <= (l.getD 0 0).toNat),Calls prog 97 #[.slice a 4 c] w fun e w'=>e = .returned (.int .u64 (sgnX 4 (beVal l)))∧w = w') ∧
  (∀ (h:BytesIn w a 4 c l) (hx:¬ 128 <= (l.getD 0 0).toNat),Calls prog 97 #[.slice a 4 c] w fun e w'=>e = .returned (.int .u64 (sgnX 4 (beVal l)))∧w = w'):=by
 refine ⟨?_,?_,?_,?_,?_,?_⟩
 all_goals intro h hx
 all_goals
  have hl:=h.len
  have hlt:=beVal_lt l
  rw [hl] at hlt
 have hm:=(high_1 l hl)
 rotate_left
 have hm:=(high_1 l hl)
 rotate_left
 have hm:=(high_2 l hl)
 rotate_left
 have hm:=(high_2 l hl)
 rotate_left
 have hm:=(high_4 l hl)
 rotate_left
 have hm:=(high_4 l hl)
 rotate_left
 all_goals
  obtain ⟨b,o,rfl,hb,hcell⟩:=h.at_ (Nat.lt_of_lt_of_le (by decide) h.le)
  have hc:=hcell 0 (by decide)
  rw [Nat.add_zero] at hc
  have HN:=zH (rnumber_any w _ _ _ _ h (by decide))
  obtain ⟨x,hx0⟩:∃ x,(l.getD 0 0).toNat = x:=⟨_,rfl⟩
  rw [hx0] at hc hx hm
 focus
  have HE:sgnX 1 (beVal l) = ((beVal l:Nat):Int)+18446744073709551360:=by
   unfold sgnX
   rw [show (256:Nat) ^ 1 = 256 from rfl] at *
   rw [if_pos ⟨by decide,by omega⟩]
   omega
  rw [HE]
  have d1: (128:Int) <= x:=by omega
 rotate_left
 focus
  have HE:sgnX 1 (beVal l) = (beVal l:Nat):=by
   unfold sgnX
   rw [show (256:Nat) ^ 1 = 256 from rfl] at *
   rw [if_neg (by omega)]
  rw [HE]
  have d1:¬ (128:Int) <= x:=by omega
 rotate_left
 focus
  have HE:sgnX 2 (beVal l) = ((beVal l:Nat):Int)+18446744073709486080:=by
   unfold sgnX
   rw [show (256:Nat) ^ 2 = 65536 from rfl] at *
   rw [if_pos ⟨by decide,by omega⟩]
   omega
  rw [HE]
  have d1: (128:Int) <= x:=by omega
 rotate_left
 focus
  have HE:sgnX 2 (beVal l) = (beVal l:Nat):=by
   unfold sgnX
   rw [show (256:Nat) ^ 2 = 65536 from rfl] at *
   rw [if_neg (by omega)]
  rw [HE]
  have d1:¬ (128:Int) <= x:=by omega
 rotate_left
 focus
  have HE:sgnX 4 (beVal l) = ((beVal l:Nat):Int)+18446744069414584320:=by
   unfold sgnX
   rw [show (256:Nat) ^ 4 = 4294967296 from rfl] at *
   rw [if_pos ⟨by decide,by omega⟩]
   omega
  rw [HE]
  have d1: (128:Int) <= x:=by omega
 rotate_left
 focus
  have HE:sgnX 4 (beVal l) = (beVal l:Nat):=by
   unfold sgnX
   rw [show (256:Nat) ^ 4 = 4294967296 from rfl] at *
   rw [if_neg (by omega)]
  rw [HE]
  have d1:¬ (128:Int) <= x:=by omega
 rotate_left
 all_goals
  generalize beVal l = m at *
  have HM:=zH hlt
  clear h hl hcell hm hx hx0 HE hlt
  go_enter func97,ntmps97
  go_wp2_with fail
  refine HN.out.mono ?_
  rintro e w1 ⟨rfl,rfl⟩
  go_wp2_with fail
  go_ret
  refine ⟨?_,rfl⟩
  have:=HM.out
 ·show Ending.returned (Value.int _ (IntKind.wrap _ _)) = _
  congr 2
  simp only [IntKind.wrap,IntKind.bits,IntKind.signed,Bool.false_and,Bool.false_eq_true,if_false]
  omega
 ·rfl
 ·show Ending.returned (Value.int _ (IntKind.wrap _ _)) = _
  congr 2
  simp only [IntKind.wrap,IntKind.bits,IntKind.signed,Bool.false_and,Bool.false_eq_true,if_false]
  omega
 ·rfl
 ·show Ending.returned (Value.int _ (IntKind.wrap _ _)) = _
  congr 2
  simp only [IntKind.wrap,IntKind.bits,IntKind.signed,Bool.false_and,Bool.false_eq_true,if_false]
  omega
 rfl
def rsigned_1_1:=fun w a c l=>(mrg_rsigned_1_1 w a c l).1
def rsigned_1_0:=fun w a c l=>(mrg_rsigned_1_1 w a c l).2.1
def rsigned_2_1:=fun w a c l=>(mrg_rsigned_1_1 w a c l).2.2.1
def rsigned_2_0:=fun w a c l=>(mrg_rsigned_1_1 w a c l).2.2.2.1
def rsigned_4_1:=fun w a c l=>(mrg_rsigned_1_1 w a c l).2.2.2.2.1
def rsigned_4_0:=fun w a c l=>(mrg_rsigned_1_1 w a c l).2.2.2.2.2
theorem rsigned_8 (w:World) (a:Option Addr) (c:Nat) (l:List UInt8) (h:BytesIn w a 8 c l) :
  Calls prog 97 #[.slice a 8 c] w fun e w'=>e = .returned (.int .u64 (sgnX 8 (beVal l)))∧w = w':=by
 have hl:=h.len
 obtain ⟨b,o,rfl,hb,hcell⟩:=h.at_ (Nat.lt_of_lt_of_le (by decide) h.le)
 have HN:=zH (rnumber_any w _ _ _ _ h (by decide))
 have HE:sgnX 8 (beVal l) = (beVal l:Nat):=by
  unfold sgnX
  rw [if_neg (by omega)]
 rw [HE]
 generalize beVal l = m at *
 clear h hl hcell HE
 go_enter func97,ntmps97
 go_wp2_with fail
 refine HN.out.mono ?_
 rintro e w1 ⟨rfl,rfl⟩
 go_wp2_with fail
 go_ret
 exact ⟨rfl,rfl⟩
theorem rsigned_any (w:World) (a:Option Addr) (wd c:Nat) (l:List UInt8) (h:BytesIn w a wd c l) (hw:wd = 1 ∨ wd = 2 ∨ wd = 4 ∨ wd = 8) :
  Calls prog 97 #[.slice a wd c] w fun e w'=>e = .returned (.int .u64 (sgnX wd (beVal l)))∧w = w':=by
 rcases hw with rfl|rfl|rfl|rfl
 ·by_cases hx:128 <= (l.getD 0 0).toNat
  ·exact rsigned_1_1 w a c l h hx
  ·exact rsigned_1_0 w a c l h hx
 ·by_cases hx:128 <= (l.getD 0 0).toNat
  ·exact rsigned_2_1 w a c l h hx
  ·exact rsigned_2_0 w a c l h hx
 ·by_cases hx:128 <= (l.getD 0 0).toNat
  ·exact rsigned_4_1 w a c l h hx
  ·exact rsigned_4_0 w a c l h hx
 exact rsigned_8 w a c l h
end Go.Proofs.YtnnnfhobbnjmfaaGreatDoor
