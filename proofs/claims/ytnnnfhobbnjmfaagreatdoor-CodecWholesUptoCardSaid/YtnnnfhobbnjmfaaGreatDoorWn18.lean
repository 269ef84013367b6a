/-
  Lemmas on the codec. Conditions: as each says.
-/
import Derived.Test.YtnnnfhobbnjmfaaGreatDoorWn04
namespace Go.Proofs.YtnnnfhobbnjmfaaGreatDoor
open Go.RowKit
set_option linter.all false
set_option maxHeartbeats 40000000
set_option maxRecDepth 20000

theorem ret_bool {a b:Bool} (h:a = b):Ending.returned (.bool a) = .returned (.bool b):=by rw [h]
theorem asciiF_neg (s:ByteArray):∀ (f k:Nat),(asciiF s f k < 0) ↔ ∀ i,i < f → byteS s (k+i) < 128
 | 0,k=>by simp [asciiF]
 | f+1,k=>by
  rw [asciiF]
  by_cases h:128 ≤ byteS s k
  ·rw [if_pos h]
   constructor
   ·intro q;omega
   ·intro q;have:=q 0 (by omega);simp at this;omega
  ·rw [if_neg h,asciiF_neg s f (k+1)]
   constructor
   ·intro q i hi
    cases i with
    | zero=>simp;omega
    | succ i=>have:=q i (by omega);rw [show k+(i+1) = k+1+i by omega];exact this
   ·intro q i hi
    have:=q (i+1) (by omega)
    rw [show k+1+i = k+(i+1) by omega];exact this
theorem plain_any (s:ByteArray) (w:World) (hs:s.size ≤ 9223372036854775800) :
  Calls Tryz.prog 118 #[.string s] w fun e w'=>e = .returned (.bool (decide (asciiS s < 0)))∧w = w':=by
 go_enter Tryz.func118,Tryz.ntmps118
 go_wp2
 go_loop [3] (fun i=>∃ k:Nat,k ≤ s.size∧i = .int .i64 k∧Hid (∀ i,i < k → byteS s i < 128)) (fun i=>s.size - (intOf i).toNat)
 case atStart=>exact ⟨0,by omega,rfl,Lib.hid (fun i h=>by omega)⟩
 obtain ⟨k,hk,rfl,H⟩:=hrel
 by_cases hlt:k < s.size
 ·have hb:=byteS_in s k hlt
  by_cases h128:128 ≤ s[k].toNat
  ·have HE:=Lib.hid (show decide (asciiS s < 0) = false from decide_eq_false (fun q=>by
    have:=(asciiF_neg s s.size 0).1 q k hlt
    rw [Nat.zero_add,hb] at this
    omega))
   clear hb
   have h128':(128:Int) ≤ (s[k].toNat:Int):=by omega
   go_wp2
   go_ret
   exact ⟨ret_bool HE.out.symm,rfl⟩
  ·have HE:=Lib.hid (show ∀ i,i < k+1 → byteS s i < 128 from fun i hi=>by
    by_cases e:i = k
    ·subst e;rw [hb];omega
    ·exact H.out i (by omega))
   clear hb
   have h128':¬ (128:Int) ≤ (s[k].toNat:Int):=by omega
   go_wp2
   go_round
   case rel=>exact ⟨k+1,by omega,by go_num,HE⟩
   case measure=>simp [intOf];omega
 have HE:=Lib.hid (show decide (asciiS s < 0) = true from decide_eq_true ((asciiF_neg s s.size 0).2 (fun i hi=>by rw [Nat.zero_add];exact H.out i (by omega))))
 go_wp2
 go_ret
 exact ⟨ret_bool HE.out.symm,rfl⟩
def letF (s:ByteArray):Nat → Nat → Int → Option Int
 | 0,_,p=>some p
 | f+1,i,p=>if byteS s i < 128 ∨ 191 < byteS s i then none else letF s f (i+1) (64 * p+byteS s i - 128)
def letR (s:ByteArray) (n:Nat) (least p:Int):Int :=
 if s.size < n then 0 else match letF s (n - 1) 1 p with
 | none=>0
 | some q=>if q < least ∨ 1114111 < q ∨ (55296 ≤ q∧q ≤ 57343) then 0 else n
def letS (s:ByteArray):Int :=
 if byteS s 0 < 128 then 1 else if 194 ≤ byteS s 0∧byteS s 0 < 224 then letR s 2 128 (byteS s 0 - 192:Int) else if 224 ≤ byteS s 0∧byteS s 0 < 240 then letR s 3 2048 (byteS s 0 - 224:Int)
 else if 240 ≤ byteS s 0∧byteS s 0 < 245 then letR s 4 65536 (byteS s 0 - 240:Int) else 0
theorem letter_any (s:ByteArray) (w:World) (h1:1 ≤ s.size) (hs:s.size ≤ 9223372036854775800) :
  Calls Tryz.prog 134 #[.string s] w fun e w'=>e = .returned (.int .i64 (letS s))∧w = w':=by
 have hb:=byteS_in s 0 (by omega)
 have hx:=byteS_lt s 0
 obtain ⟨c,hc⟩:∃ c,s[0].toNat = c:=⟨_,rfl⟩
 rw [hb,hc] at hx
 have HB:=Lib.hid (show byteS s 0 = c from by rw [hb,hc])
 have HC0:=Lib.hid True.intro
 clear hb
 go_enter Tryz.func134,Tryz.ntmps134
 go_upto_region 6 with fail
 by_cases h0:(c:Int) < 128
 ·have HZ:=Lib.hid (show letS s = 1 from by unfold letS;rw [HB.out,if_pos (by omega)])
  go_wp2_with fail
  go_ret
  exact ⟨ret_i64 HZ.out.symm,rfl⟩
 by_cases ha:194 ≤ (c:Int)
 ·by_cases hb2:(c:Int) < 224
  ·have hb3:¬ 224 ≤ (c:Int):=by omega
   have HR:=Lib.hid (show letS s = letR s 2 128 ((c:Int) - 192) from by unfold letS;rw [HB.out];rw [if_neg (by omega),if_pos (by omega)])
   clear HC0
   by_cases hsz:s.size < 2
   ·have HE:=Lib.hid (show letS s = 0 from by rw [HR.out,letR,if_pos hsz])
    go_wp2_with fail
    go_ret
    exact ⟨ret_i64 HE.out.symm,rfl⟩
   ·have HE:=Lib.hid (show letS s = match letF s (2 - 1) 1 ((c:Int) - 192) with|none=>0|some q=>if q < 128 ∨ 1114111 < q ∨ (55296 ≤ q∧q ≤ 57343) then 0 else ((2:Nat):Int) from by rw [HR.out,letR,if_neg hsz])
    obtain ⟨R,hR⟩:∃ R,letF s (2 - 1) 1 ((c:Int) - 192) = R:=⟨_,rfl⟩
    rw [hR] at HE
    have HRR:=Lib.hid hR
    clear hR HR
    go_wp2_with fail
    go_loop [5,7] (fun v5 v7=>∃ (i:Nat) (q:Int),1 ≤ i∧i ≤ 2∧v7 = .int .i64 i∧v5 = .int .i64 q∧0 ≤ q∧q ≤ 8388607∧Hid ((i ≤ 1 → q ≤ 31)∧(i ≤ 2 → q ≤ 2047)∧(i ≤ 3 → q ≤ 131071))∧Hid (letF s (2 - i) i q = R)) (fun _ v7=>2 - (intOf v7).toNat)
    case atStart=>exact ⟨1,_,by omega,by omega,rfl,rfl,by omega,by omega,Lib.hid (by omega),HRR⟩
    case round =>
     obtain ⟨i,q,hi1,hi2,rfl,rfl,hq0,hq1,HQ,HL⟩:=hrel
     by_cases hin:(i:Int) < 2
     ·have hil:i < s.size:=by omega
      have hb:=byteS_in s i hil
      have hx:=byteS_lt s i
      have hstep:letF s (2 - i) i q = if byteS s i < 128 ∨ 191 < byteS s i then none else letF s (2 - (i+1)) (i+1) (64 * q+byteS s i - 128):=by
       rw [show 2 - i = (2 - (i+1))+1 by omega,letF]
      rw [HL.out,hb] at hstep
      rw [hb] at hx
      obtain ⟨d,hd⟩:∃ d,s[i].toNat = d:=⟨_,rfl⟩
      rw [hd] at hstep hx
      have HST:=Lib.hid hstep
      clear hb hstep
      by_cases hd1:(d:Int) < 128
      ·have HZ:=Lib.hid (show letS s = 0 from by rw [HE.out,HST.out,if_pos (.inl (by omega))])
       go_wp2_with fail
       go_ret
       exact ⟨ret_i64 HZ.out.symm,rfl⟩
      ·by_cases hd2:(191:Int) < d
       ·have HZ:=Lib.hid (show letS s = 0 from by rw [HE.out,HST.out,if_pos (.inr (by omega))])
        go_wp2_with fail
        go_ret
        exact ⟨ret_i64 HZ.out.symm,rfl⟩
       ·have HN:=Lib.hid (show letF s (2 - (i+1)) (i+1) (64 * q+d - 128) = R from by rw [HST.out,if_neg (by omega)])
        have HQ2:=Lib.hid (show (i+1 ≤ 1 → 64 * q+d - 128 ≤ 31)∧(i+1 ≤ 2 → 64 * q+d - 128 ≤ 2047)∧(i+1 ≤ 3 → 64 * q+d - 128 ≤ 131071)∧64 * q+d - 128 ≤ 8388607 from by have:=HQ.out;omega)
        go_wp2_with fail
        go_round
        case rel=>exact ⟨i+1,_,by omega,by omega,by go_num,rfl,by omega,HQ2.out.2.2.2,Lib.hid ⟨HQ2.out.1,HQ2.out.2.1,HQ2.out.2.2.1⟩,HN⟩
        case measure=>simp [intOf];omega
     ·have hie:i = 2:=by omega
      have HF:=Lib.hid (show letS s = if q < 128 ∨ 1114111 < q ∨ (55296 ≤ q∧q ≤ 57343) then 0 else ((2:Nat):Int) from by
       have h:=HL.out
       rw [hie,Nat.sub_self,letF] at h
       rw [HE.out,← h])
      clear hie
      by_cases e1:q < 128
      ·have HZ:=Lib.hid (show letS s = 0 from by rw [HF.out,if_pos (.inl e1)])
       go_wp2_with fail
       go_ret
       exact ⟨ret_i64 HZ.out.symm,rfl⟩
      ·by_cases e2:1114111 < q
       ·have HZ:=Lib.hid (show letS s = 0 from by rw [HF.out,if_pos (.inr (.inl e2))])
        go_wp2_with fail
        go_ret
        exact ⟨ret_i64 HZ.out.symm,rfl⟩
       ·by_cases e3:55296 ≤ q
        ·by_cases e4:q ≤ 57343
         ·have HZ:=Lib.hid (show letS s = 0 from by rw [HF.out,if_pos (.inr (.inr ⟨e3,e4⟩))])
          go_wp2_with fail
          go_ret
          exact ⟨ret_i64 HZ.out.symm,rfl⟩
         ·have HZ:=Lib.hid (show letS s = ((2:Nat):Int) from by rw [HF.out,if_neg (by omega)])
          go_wp2_with fail
          go_ret
          exact ⟨ret_i64 HZ.out.symm,rfl⟩
        ·have HZ:=Lib.hid (show letS s = ((2:Nat):Int) from by rw [HF.out,if_neg (by omega)])
         go_wp2_with fail
         go_ret
         exact ⟨ret_i64 HZ.out.symm,rfl⟩
  ·have hb3:224 ≤ (c:Int):=by omega
   by_cases hc3:(c:Int) < 240
   ·have hc4:¬ 240 ≤ (c:Int):=by omega
    have HR:=Lib.hid (show letS s = letR s 3 2048 ((c:Int) - 224) from by unfold letS;rw [HB.out];rw [if_neg (by omega),if_neg (by omega),if_pos (by omega)])
    clear HC0
    by_cases hsz:s.size < 3
    ·have HE:=Lib.hid (show letS s = 0 from by rw [HR.out,letR,if_pos hsz])
     go_wp2_with fail
     go_ret
     exact ⟨ret_i64 HE.out.symm,rfl⟩
    ·have HE:=Lib.hid (show letS s = match letF s (3 - 1) 1 ((c:Int) - 224) with|none=>0|some q=>if q < 2048 ∨ 1114111 < q ∨ (55296 ≤ q∧q ≤ 57343) then 0 else ((3:Nat):Int) from by rw [HR.out,letR,if_neg hsz])
     obtain ⟨R,hR⟩:∃ R,letF s (3 - 1) 1 ((c:Int) - 224) = R:=⟨_,rfl⟩
     rw [hR] at HE
     have HRR:=Lib.hid hR
     clear hR HR
     go_wp2_with fail
     go_loop [5,7] (fun v5 v7=>∃ (i:Nat) (q:Int),1 ≤ i∧i ≤ 3∧v7 = .int .i64 i∧v5 = .int .i64 q∧0 ≤ q∧q ≤ 8388607∧Hid ((i ≤ 1 → q ≤ 31)∧(i ≤ 2 → q ≤ 2047)∧(i ≤ 3 → q ≤ 131071))∧Hid (letF s (3 - i) i q = R)) (fun _ v7=>3 - (intOf v7).toNat)
     case atStart=>exact ⟨1,_,by omega,by omega,rfl,rfl,by omega,by omega,Lib.hid (by omega),HRR⟩
     case round =>
      obtain ⟨i,q,hi1,hi2,rfl,rfl,hq0,hq1,HQ,HL⟩:=hrel
      by_cases hin:(i:Int) < 3
      ·have hil:i < s.size:=by omega
       have hb:=byteS_in s i hil
       have hx:=byteS_lt s i
       have hstep:letF s (3 - i) i q = if byteS s i < 128 ∨ 191 < byteS s i then none else letF s (3 - (i+1)) (i+1) (64 * q+byteS s i - 128):=by
        rw [show 3 - i = (3 - (i+1))+1 by omega,letF]
       rw [HL.out,hb] at hstep
       rw [hb] at hx
       obtain ⟨d,hd⟩:∃ d,s[i].toNat = d:=⟨_,rfl⟩
       rw [hd] at hstep hx
       have HST:=Lib.hid hstep
       clear hb hstep
       by_cases hd1:(d:Int) < 128
       ·have HZ:=Lib.hid (show letS s = 0 from by rw [HE.out,HST.out,if_pos (.inl (by omega))])
        go_wp2_with fail
        go_ret
        exact ⟨ret_i64 HZ.out.symm,rfl⟩
       ·by_cases hd2:(191:Int) < d
        ·have HZ:=Lib.hid (show letS s = 0 from by rw [HE.out,HST.out,if_pos (.inr (by omega))])
         go_wp2_with fail
         go_ret
         exact ⟨ret_i64 HZ.out.symm,rfl⟩
        ·have HN:=Lib.hid (show letF s (3 - (i+1)) (i+1) (64 * q+d - 128) = R from by rw [HST.out,if_neg (by omega)])
         have HQ2:=Lib.hid (show (i+1 ≤ 1 → 64 * q+d - 128 ≤ 31)∧(i+1 ≤ 2 → 64 * q+d - 128 ≤ 2047)∧(i+1 ≤ 3 → 64 * q+d - 128 ≤ 131071)∧64 * q+d - 128 ≤ 8388607 from by have:=HQ.out;omega)
         go_wp2_with fail
         go_round
         case rel=>exact ⟨i+1,_,by omega,by omega,by go_num,rfl,by omega,HQ2.out.2.2.2,Lib.hid ⟨HQ2.out.1,HQ2.out.2.1,HQ2.out.2.2.1⟩,HN⟩
         case measure=>simp [intOf];omega
      ·have hie:i = 3:=by omega
       have HF:=Lib.hid (show letS s = if q < 2048 ∨ 1114111 < q ∨ (55296 ≤ q∧q ≤ 57343) then 0 else ((3:Nat):Int) from by
        have h:=HL.out
        rw [hie,Nat.sub_self,letF] at h
        rw [HE.out,← h])
       clear hie
       by_cases e1:q < 2048
       ·have HZ:=Lib.hid (show letS s = 0 from by rw [HF.out,if_pos (.inl e1)])
        go_wp2_with fail
        go_ret
        exact ⟨ret_i64 HZ.out.symm,rfl⟩
       ·by_cases e2:1114111 < q
        ·have HZ:=Lib.hid (show letS s = 0 from by rw [HF.out,if_pos (.inr (.inl e2))])
         go_wp2_with fail
         go_ret
         exact ⟨ret_i64 HZ.out.symm,rfl⟩
        ·by_cases e3:55296 ≤ q
         ·by_cases e4:q ≤ 57343
          ·have HZ:=Lib.hid (show letS s = 0 from by rw [HF.out,if_pos (.inr (.inr ⟨e3,e4⟩))])
           go_wp2_with fail
           go_ret
           exact ⟨ret_i64 HZ.out.symm,rfl⟩
          ·have HZ:=Lib.hid (show letS s = ((3:Nat):Int) from by rw [HF.out,if_neg (by omega)])
           go_wp2_with fail
           go_ret
           exact ⟨ret_i64 HZ.out.symm,rfl⟩
         ·have HZ:=Lib.hid (show letS s = ((3:Nat):Int) from by rw [HF.out,if_neg (by omega)])
          go_wp2_with fail
          go_ret
          exact ⟨ret_i64 HZ.out.symm,rfl⟩
   ·have hc4:240 ≤ (c:Int):=by omega
    by_cases hd5:(c:Int) < 245
    ·skip
     have HR:=Lib.hid (show letS s = letR s 4 65536 ((c:Int) - 240) from by unfold letS;rw [HB.out];rw [if_neg (by omega),if_neg (by omega),if_neg (by omega),if_pos (by omega)])
     clear HC0
     by_cases hsz:s.size < 4
     ·have HE:=Lib.hid (show letS s = 0 from by rw [HR.out,letR,if_pos hsz])
      go_wp2_with fail
      go_ret
      exact ⟨ret_i64 HE.out.symm,rfl⟩
     ·have HE:=Lib.hid (show letS s = match letF s (4 - 1) 1 ((c:Int) - 240) with|none=>0|some q=>if q < 65536 ∨ 1114111 < q ∨ (55296 ≤ q∧q ≤ 57343) then 0 else ((4:Nat):Int) from by rw [HR.out,letR,if_neg hsz])
      obtain ⟨R,hR⟩:∃ R,letF s (4 - 1) 1 ((c:Int) - 240) = R:=⟨_,rfl⟩
      rw [hR] at HE
      have HRR:=Lib.hid hR
      clear hR HR
      go_wp2_with fail
      go_loop [5,7] (fun v5 v7=>∃ (i:Nat) (q:Int),1 ≤ i∧i ≤ 4∧v7 = .int .i64 i∧v5 = .int .i64 q∧0 ≤ q∧q ≤ 8388607∧Hid ((i ≤ 1 → q ≤ 31)∧(i ≤ 2 → q ≤ 2047)∧(i ≤ 3 → q ≤ 131071))∧Hid (letF s (4 - i) i q = R)) (fun _ v7=>4 - (intOf v7).toNat)
      case atStart=>exact ⟨1,_,by omega,by omega,rfl,rfl,by omega,by omega,Lib.hid (by omega),HRR⟩
      case round =>
       obtain ⟨i,q,hi1,hi2,rfl,rfl,hq0,hq1,HQ,HL⟩:=hrel
       by_cases hin:(i:Int) < 4
       ·have hil:i < s.size:=by omega
        have hb:=byteS_in s i hil
        have hx:=byteS_lt s i
        have hstep:letF s (4 - i) i q = if byteS s i < 128 ∨ 191 < byteS s i then none else letF s (4 - (i+1)) (i+1) (64 * q+byteS s i - 128):=by
         rw [show 4 - i = (4 - (i+1))+1 by omega,letF]
        rw [HL.out,hb] at hstep
        rw [hb] at hx
        obtain ⟨d,hd⟩:∃ d,s[i].toNat = d:=⟨_,rfl⟩
        rw [hd] at hstep hx
        have HST:=Lib.hid hstep
        clear hb hstep
        by_cases hd1:(d:Int) < 128
        ·have HZ:=Lib.hid (show letS s = 0 from by rw [HE.out,HST.out,if_pos (.inl (by omega))])
         go_wp2_with fail
         go_ret
         exact ⟨ret_i64 HZ.out.symm,rfl⟩
        ·by_cases hd2:(191:Int) < d
         ·have HZ:=Lib.hid (show letS s = 0 from by rw [HE.out,HST.out,if_pos (.inr (by omega))])
          go_wp2_with fail
          go_ret
          exact ⟨ret_i64 HZ.out.symm,rfl⟩
         ·have HN:=Lib.hid (show letF s (4 - (i+1)) (i+1) (64 * q+d - 128) = R from by rw [HST.out,if_neg (by omega)])
          have HQ2:=Lib.hid (show (i+1 ≤ 1 → 64 * q+d - 128 ≤ 31)∧(i+1 ≤ 2 → 64 * q+d - 128 ≤ 2047)∧(i+1 ≤ 3 → 64 * q+d - 128 ≤ 131071)∧64 * q+d - 128 ≤ 8388607 from by have:=HQ.out;omega)
          go_wp2_with fail
          go_round
          case rel=>exact ⟨i+1,_,by omega,by omega,by go_num,rfl,by omega,HQ2.out.2.2.2,Lib.hid ⟨HQ2.out.1,HQ2.out.2.1,HQ2.out.2.2.1⟩,HN⟩
          case measure=>simp [intOf];omega
       ·have hie:i = 4:=by omega
        have HF:=Lib.hid (show letS s = if q < 65536 ∨ 1114111 < q ∨ (55296 ≤ q∧q ≤ 57343) then 0 else ((4:Nat):Int) from by
         have h:=HL.out
         rw [hie,Nat.sub_self,letF] at h
         rw [HE.out,← h])
        clear hie
        by_cases e1:q < 65536
        ·have HZ:=Lib.hid (show letS s = 0 from by rw [HF.out,if_pos (.inl e1)])
         go_wp2_with fail
         go_ret
         exact ⟨ret_i64 HZ.out.symm,rfl⟩
        ·by_cases e2:1114111 < q
         ·have HZ:=Lib.hid (show letS s = 0 from by rw [HF.out,if_pos (.inr (.inl e2))])
          go_wp2_with fail
          go_ret
          exact ⟨ret_i64 HZ.out.symm,rfl⟩
         ·by_cases e3:55296 ≤ q
          ·by_cases e4:q ≤ 57343
           ·have HZ:=Lib.hid (show letS s = 0 from by rw [HF.out,if_pos (.inr (.inr ⟨e3,e4⟩))])
            go_wp2_with fail
            go_ret
            exact ⟨ret_i64 HZ.out.symm,rfl⟩
           ·have HZ:=Lib.hid (show letS s = ((4:Nat):Int) from by rw [HF.out,if_neg (by omega)])
            go_wp2_with fail
            go_ret
            exact ⟨ret_i64 HZ.out.symm,rfl⟩
          ·have HZ:=Lib.hid (show letS s = ((4:Nat):Int) from by rw [HF.out,if_neg (by omega)])
           go_wp2_with fail
           go_ret
           exact ⟨ret_i64 HZ.out.symm,rfl⟩
    ·have HZ:=Lib.hid (show letS s = 0 from by unfold letS;rw [HB.out,if_neg (by omega),if_neg (by omega),if_neg (by omega),if_neg (by omega)])
     go_wp2_with fail
     go_ret
     exact ⟨ret_i64 HZ.out.symm,rfl⟩
 have hb3:¬ 224 ≤ (c:Int):=by omega
 have hc4:¬ 240 ≤ (c:Int):=by omega
 have HZ:=Lib.hid (show letS s = 0 from by unfold letS;rw [HB.out,if_neg (by omega),if_neg (by omega),if_neg (by omega),if_neg (by omega)])
 go_wp2_with fail
 go_ret
 exact ⟨ret_i64 HZ.out.symm,rfl⟩

theorem qbyteS_extract (s:ByteArray) (k j:Nat):((s.extract k s.size).get! j).toNat = byteS s (k+j):=by
 have e:(s.extract k s.size).get! j = (s.data.extract k s.data.size)[j]!:=by
  show (s.extract k s.size).data[j]! = _
  rw [ByteArray.data_extract];rfl
 rw [e]
 unfold byteS
 split
 ·rename_i h
  have h':k+j < s.data.size:=h
  rw [getElem!_pos (s.data.extract k s.data.size) j (by simp;omega)]
  simp
  rfl
 rename_i h
 have h':¬ k+j < s.data.size:=h
 rw [getElem!_neg (s.data.extract k s.data.size) j (by simp;omega)]
 rfl
theorem byteS_ext (s:ByteArray) (k j:Nat):byteS (s.extract k s.size) j = byteS s (k+j):=by
 have hsz:(s.extract k s.size).size = s.size - k:=by simp
 by_cases h:j < (s.extract k s.size).size
 ·rw [byteS_in _ _ h,← qbyteS_extract]
  congr 1
  show (s.extract k s.size).data[j] = (s.extract k s.size).data[j]!
  have h':j < (s.extract k s.size).data.size:=h
  rw [getElem!_pos (s.extract k s.size).data j h']
 unfold byteS
 rw [dif_neg h,dif_neg (by omega)]
def letN (n b0 b1 b2 b3:Nat):Int :=
 if b0 < 128 then 1
 else if 194 ≤ b0∧b0 < 224 then (if n < 2 then 0 else if b1 < 128 ∨ 191 < b1 then 0 else if (64 * ((b0:Int) - 192)+b1 - 128 < 128) ∨ 1114111 < 64 * ((b0:Int) - 192)+b1 - 128 ∨ (55296 ≤ 64 * ((b0:Int) - 192)+b1 - 128∧64 * ((b0:Int) - 192)+b1 - 128 ≤ 57343) then 0 else 2)
 else if 224 ≤ b0∧b0 < 240 then (if n < 3 then 0 else if b1 < 128 ∨ 191 < b1 then 0 else if b2 < 128 ∨ 191 < b2 then 0 else if (64 * (64 * ((b0:Int) - 224)+b1 - 128)+b2 - 128 < 2048) ∨ 1114111 < 64 * (64 * ((b0:Int) - 224)+b1 - 128)+b2 - 128 ∨ (55296 ≤ 64 * (64 * ((b0:Int) - 224)+b1 - 128)+b2 - 128∧64 * (64 * ((b0:Int) - 224)+b1 - 128)+b2 - 128 ≤ 57343) then 0 else 3)
 else if 240 ≤ b0∧b0 < 245 then (if n < 4 then 0 else if b1 < 128 ∨ 191 < b1 then 0 else if b2 < 128 ∨ 191 < b2 then 0 else if b3 < 128 ∨ 191 < b3 then 0 else if (64 * (64 * (64 * ((b0:Int) - 240)+b1 - 128)+b2 - 128)+b3 - 128 < 65536) ∨ 1114111 < 64 * (64 * (64 * ((b0:Int) - 240)+b1 - 128)+b2 - 128)+b3 - 128 ∨ (55296 ≤ 64 * (64 * (64 * ((b0:Int) - 240)+b1 - 128)+b2 - 128)+b3 - 128∧64 * (64 * (64 * ((b0:Int) - 240)+b1 - 128)+b2 - 128)+b3 - 128 ≤ 57343) then 0 else 4)
 else 0
theorem letS_N (t:ByteArray):letS t = letN t.size (byteS t 0) (byteS t 1) (byteS t 2) (byteS t 3):=by
 have f2:∀ p,letF t (2 - 1) 1 p = if byteS t 1 < 128 ∨ 191 < byteS t 1 then none else some (64 * p+byteS t 1 - 128):=fun p=>by
  show letF t 1 1 p = _
  rw [letF,letF]
 have f3:∀ p,letF t (3 - 1) 1 p = if byteS t 1 < 128 ∨ 191 < byteS t 1 then none else if byteS t 2 < 128 ∨ 191 < byteS t 2 then none else some (64 * (64 * p+byteS t 1 - 128)+byteS t 2 - 128):=fun p=>by
  show letF t 2 1 p = _
  rw [letF,letF,letF]
 have f4:∀ p,letF t (4 - 1) 1 p = if byteS t 1 < 128 ∨ 191 < byteS t 1 then none else if byteS t 2 < 128 ∨ 191 < byteS t 2 then none else if byteS t 3 < 128 ∨ 191 < byteS t 3 then none else some (64 * (64 * (64 * p+byteS t 1 - 128)+byteS t 2 - 128)+byteS t 3 - 128):=fun p=>by
  show letF t 3 1 p = _
  rw [letF,letF,letF,letF]
 unfold letS letR letN
 rw [f2,f3,f4]
 clear f2 f3 f4
 generalize byteS t 0 = b0
 generalize byteS t 1 = b1
 generalize byteS t 2 = b2
 generalize byteS t 3 = b3
 generalize t.size = n
 by_cases c1:b1 < 128 ∨ 191 < b1 <;> by_cases c2:b2 < 128 ∨ 191 < b2 <;> by_cases c3:b3 < 128 ∨ 191 < b3 <;> simp [c1,c2,c3]
theorem letN_decode (n b0 b1 b2 b3:Nat) (hn:1 ≤ n) (h0:b0 < 256) (h1:b1 < 256) (h2:b2 < 256) (h3:b3 < 256) :
  letN n b0 b1 b2 b3 = if (Lib.decodeN n b0 b1 b2 b3).1 = 65533∧(Lib.decodeN n b0 b1 b2 b3).2 = 1 then 0 else ((Lib.decodeN n b0 b1 b2 b3).2:Int):=by
 unfold letN Lib.decodeN
 repeat' split
 all_goals first|rfl|(exfalso;omega)|(simp only at *;omega)
theorem let_decode (s:ByteArray) (p:Nat) (h:p < s.size) :
  letS (s.extract p s.size) = if (Lib.decodeGo (s.extract p s.size)).1 = 65533∧(Lib.decodeGo (s.extract p s.size)).2 = 1 then 0 else ((Lib.decodeGo (s.extract p s.size)).2:Int):=by
 have hsz:(s.extract p s.size).size = s.size - p:=by simp
 have hdg:Lib.decodeGo (s.extract p s.size) = Lib.decodeN (s.size - p) (byteS s p) (byteS s (p+1)) (byteS s (p+2)) (byteS s (p+3)):=by
  unfold Lib.decodeGo
  rw [if_neg (by omega),Lib.decode_at,hsz,qbyteS_extract,qbyteS_extract,qbyteS_extract,qbyteS_extract]
  simp only [Nat.sub_zero,Nat.zero_add,Nat.add_zero]
 rw [letS_N,hsz,byteS_ext,byteS_ext,byteS_ext,byteS_ext,hdg,Nat.add_zero]
 exact letN_decode _ _ _ _ _ (by omega) (byteS_lt _ _) (byteS_lt _ _) (byteS_lt _ _) (byteS_lt _ _)
theorem qtext_any (s:ByteArray) (w:World) (hs:s.size ≤ 9223372036854775800) :
  Calls Tryz.prog 117 #[.string s] w fun e w'=>e = .returned (.bool (decide (utf8S s < 0)))∧w = w':=by
 go_enter Tryz.func117,Tryz.ntmps117
 go_wp2
 go_loop [3] (fun i=>∃ k f:Nat,k ≤ s.size∧s.size - k ≤ f∧i = .int .i64 k∧Hid (utf8S s = utf8F s f k)) (fun i=>s.size - (intOf i).toNat)
 case atStart=>exact ⟨0,s.size,by omega,by omega,rfl,Lib.hid rfl⟩
 obtain ⟨k,f,hk,hf,rfl,H⟩:=hrel
 by_cases hlt:k < s.size
 ·obtain ⟨f,rfl⟩:∃ f',f = f'+1:=⟨f - 1,by omega⟩
  obtain ⟨hd1,hd2,hd3⟩:=decodeGo_bd s k hlt
  have hs1:=H.out
  rw [utf8F,if_pos hlt] at hs1
  have hcd:=let_decode s k hlt
  have hc:=letter_any (s.extract k s.size) w (by simp;omega) (by simp;omega)
  rw [hcd] at hc
  clear hcd hd3
  obtain ⟨r,hr⟩:∃ r,(Lib.decodeGo (s.extract k s.size)).1 = r:=⟨_,rfl⟩
  obtain ⟨m,hm⟩:∃ m,(Lib.decodeGo (s.extract k s.size)).2 = m:=⟨_,rfl⟩
  rw [hr,hm] at hs1 hc
  rw [hm] at hd1 hd2
  clear hr hm H
  by_cases c1:r = 65533∧m = 1
  ·rw [if_pos c1] at hs1 hc
   have HE:=Lib.hid (show decide (utf8S s < 0) = false from by rw [hs1];exact decide_eq_false (by omega))
   have HC:=Lib.hid hc
   clear hs1 hc
   go_wp2_with fail
   refine HC.out.mono ?_
   rintro e w' ⟨rfl,rfl⟩
   go_wp2_with fail
   go_ret
   exact ⟨ret_bool HE.out.symm,rfl⟩
  ·rw [if_neg c1] at hs1 hc
   have HE:=Lib.hid hs1
   have HC:=Lib.hid hc
   clear hs1 hc
   have hm1:((m:Int) == 0) = false:=by simp;omega
   go_wp2_with fail
   refine HC.out.mono ?_
   rintro e w' ⟨rfl,rfl⟩
   go_wp2_with fail
   go_round
   case rel=>exact ⟨k+m,f,by omega,by omega,by go_num,HE⟩
   case measure=>simp [intOf];omega
 have HE:=Lib.hid (show decide (utf8S s < 0) = true from by rw [H.out];cases f <;> simp [utf8F,hlt])
 go_wp2
 go_ret
 exact ⟨ret_bool HE.out.symm,rfl⟩
end Go.Proofs.YtnnnfhobbnjmfaaGreatDoor
