/-
  Lemmas on the codec. Conditions: as each says.
-/
import Derived.Test.YtnnnfhobbnjmfaaGreatDoorWn03
import Derived.Test.YtnnnfhobbnjmfaaGreatDoorWn02
import Derived.WalkLawsBesides
namespace Go.Proofs.YtnnnfhobbnjmfaaGreatDoor
open Go.RowKit Go.Proofs.Tryz
set_option linter.all false
set_option maxHeartbeats 40000000
set_option maxRecDepth 20000

def V.listed (l:List V):V:=.mk 21 0 ⟨#[]⟩ l 0
def hasT (k:Int):Bool:=decide (k = 14 ∨ k = 17 ∨ k = 18 ∨ k = 19 ∨ k = 20)
def hasP (k:Int):Bool:=decide (k = 21 ∨ k = 22 ∨ k = 23 ∨ k = 24)
def hasN (k:Int):Bool:=decide (¬ (k = 0 ∨ k = 14 ∨ k = 17 ∨ k = 18 ∨ k = 19 ∨ k = 20 ∨ k = 21 ∨ k = 22 ∨ k = 23 ∨ k = 24))
theorem has_any (k:Int) (w:World):Calls prog 98 #[.int .i64 k] w fun e w'=>e = .returned (.tuple #[.bool (hasN k),.bool (hasT k),.bool (hasP k)])∧w' = w:=by
 by_cases e0:k = 0
 ·subst e0
  rw [show hasN 0 = false from by decide,show hasT 0 = false from by decide,show hasP 0 = false from by decide]
  go_enter func98,ntmps98
  go_wp2_with fail
  go_ret3
  exact ⟨rfl,rfl⟩
 by_cases e14:k = 14
 ·subst e14
  rw [show hasN 14 = false from by decide,show hasT 14 = true from by decide,show hasP 14 = false from by decide]
  go_enter func98,ntmps98
  go_wp2_with fail
  go_ret3
  exact ⟨rfl,rfl⟩
 by_cases e17:k = 17
 ·subst e17
  rw [show hasN 17 = false from by decide,show hasT 17 = true from by decide,show hasP 17 = false from by decide]
  go_enter func98,ntmps98
  go_wp2_with fail
  go_ret3
  exact ⟨rfl,rfl⟩
 by_cases e18:k = 18
 ·subst e18
  rw [show hasN 18 = false from by decide,show hasT 18 = true from by decide,show hasP 18 = false from by decide]
  go_enter func98,ntmps98
  go_wp2_with fail
  go_ret3
  exact ⟨rfl,rfl⟩
 by_cases e19:k = 19
 ·subst e19
  rw [show hasN 19 = false from by decide,show hasT 19 = true from by decide,show hasP 19 = false from by decide]
  go_enter func98,ntmps98
  go_wp2_with fail
  go_ret3
  exact ⟨rfl,rfl⟩
 by_cases e20:k = 20
 ·subst e20
  rw [show hasN 20 = false from by decide,show hasT 20 = true from by decide,show hasP 20 = false from by decide]
  go_enter func98,ntmps98
  go_wp2_with fail
  go_ret3
  exact ⟨rfl,rfl⟩
 by_cases e21:k = 21
 ·subst e21
  rw [show hasN 21 = false from by decide,show hasT 21 = false from by decide,show hasP 21 = true from by decide]
  go_enter func98,ntmps98
  go_wp2_with fail
  go_ret3
  exact ⟨rfl,rfl⟩
 by_cases e22:k = 22
 ·subst e22
  rw [show hasN 22 = false from by decide,show hasT 22 = false from by decide,show hasP 22 = true from by decide]
  go_enter func98,ntmps98
  go_wp2_with fail
  go_ret3
  exact ⟨rfl,rfl⟩
 by_cases e23:k = 23
 ·subst e23
  rw [show hasN 23 = false from by decide,show hasT 23 = false from by decide,show hasP 23 = true from by decide]
  go_enter func98,ntmps98
  go_wp2_with fail
  go_ret3
  exact ⟨rfl,rfl⟩
 by_cases e24:k = 24
 ·subst e24
  rw [show hasN 24 = false from by decide,show hasT 24 = false from by decide,show hasP 24 = true from by decide]
  go_enter func98,ntmps98
  go_wp2_with fail
  go_ret3
  exact ⟨rfl,rfl⟩
 rw [show hasN k = true from by simp [hasN,e0,e14,e17,e18,e19,e20,e21,e22,e23,e24],show hasT k = false from by simp [hasT,e14,e17,e18,e19,e20],show hasP k = false from by simp [hasP,e21,e22,e23,e24]]
 have m0:(k == 0) = false:=by simpa using e0
 have m14:(k == 14) = false:=by simpa using e14
 have m17:(k == 17) = false:=by simpa using e17
 have m18:(k == 18) = false:=by simpa using e18
 have m19:(k == 19) = false:=by simpa using e19
 have m20:(k == 20) = false:=by simpa using e20
 have m21:(k == 21) = false:=by simpa using e21
 have m22:(k == 22) = false:=by simpa using e22
 have m23:(k == 23) = false:=by simpa using e23
 have m24:(k == 24) = false:=by simpa using e24
 clear e0 e14 e17 e18 e19 e20 e21 e22 e23 e24
 go_enter func98,ntmps98
 go_wp2_with fail
 go_ret3
 exact ⟨rfl,rfl⟩
def twoC (n:Int):Int:=if n < 9223372036854775808 then n else n - 18446744073709551616
theorem wrap_twoC {n:Int} (h:IsU64 n):wrap64 n = twoC n:=by
 obtain ⟨h1,h2⟩:=h
 unfold wrap64 twoC
 split <;> omega
theorem ret_boolV {a b:Bool} (h:a = b):Ending.returned (.bool a) = .returned (.bool b):=by rw [h]
theorem within8_any (n:Int) (w:World) (hn:IsU64 n):Calls prog 99 #[.int .u64 n,.int .i64 8] w fun e w'=>e = .returned (.bool (decide (-128 <= twoC n∧twoC n < 128)))∧w' = w:=by
 obtain ⟨n0,n1⟩:=hn
 go_enter func99,ntmps99
 have e:=wrap_twoC ⟨n0,n1⟩
 go_wp2_with fail
 all_goals
  go_ret
  refine ⟨ret_boolV ?_,rfl⟩
  rw [Bool.eq_iff_iff]
  simp only [Bool.or_eq_true,beq_iff_eq,decide_eq_true_eq]
  try rw [e] at *
  try omega
  try (constructor <;> intro q <;> first|omega|trivial)
theorem within16_any (n:Int) (w:World) (hn:IsU64 n):Calls prog 99 #[.int .u64 n,.int .i64 16] w fun e w'=>e = .returned (.bool (decide (-32768 <= twoC n∧twoC n < 32768)))∧w' = w:=by
 obtain ⟨n0,n1⟩:=hn
 go_enter func99,ntmps99
 have e:=wrap_twoC ⟨n0,n1⟩
 go_wp2_with fail
 all_goals
  go_ret
  refine ⟨ret_boolV ?_,rfl⟩
  rw [Bool.eq_iff_iff]
  simp only [Bool.or_eq_true,beq_iff_eq,decide_eq_true_eq]
  try rw [e] at *
  try omega
  try (constructor <;> intro q <;> first|omega|trivial)
theorem within32_any (n:Int) (w:World) (hn:IsU64 n):Calls prog 99 #[.int .u64 n,.int .i64 32] w fun e w'=>e = .returned (.bool (decide (-2147483648 <= twoC n∧twoC n < 2147483648)))∧w' = w:=by
 obtain ⟨n0,n1⟩:=hn
 go_enter func99,ntmps99
 have e:=wrap_twoC ⟨n0,n1⟩
 go_wp2_with fail
 all_goals
  go_ret
  refine ⟨ret_boolV ?_,rfl⟩
  rw [Bool.eq_iff_iff]
  simp only [Bool.or_eq_true,beq_iff_eq,decide_eq_true_eq]
  try rw [e] at *
  try omega
  try (constructor <;> intro q <;> first|omega|trivial)


def byteS (s:ByteArray) (k:Nat):Nat:=if h:k < s.size then s[k].toNat else 0
theorem byteS_in (s:ByteArray) (k:Nat) (h:k < s.size):byteS s k = s[k].toNat:=by simp [byteS,h]
theorem byteS_lt (s:ByteArray) (k:Nat):byteS s k < 256:=by
 unfold byteS;split
 ·exact UInt8.toNat_lt _
 ·omega

def asciiF (s:ByteArray):Nat → Nat → Int
 | 0,_=>-1
 | f+1,k=>if 128 ≤ byteS s k then (k:Int) else asciiF s f (k+1)
def asciiS (s:ByteArray):Int:=asciiF s s.size 0

theorem ret_i64 {a b:Int} (h:a = b):Ending.returned (.int .i64 a) = .returned (.int .i64 b):=by rw [h]
theorem ascii_any (s:ByteArray) (w:World) (hs:s.size ≤ 9223372036854775807) :
  Calls Tryz.prog 101 #[.string s] w fun e w'=>e = .returned (.int .i64 (asciiS s))∧w = w':=by
 go_enter Tryz.func101,Tryz.ntmps101
 go_wp2
 go_loop [6] (fun i=>∃ k:Nat,k ≤ s.size∧i = .int .i64 k∧Hid (asciiS s = asciiF s (s.size - k) k)) (fun i=>s.size - (intOf i).toNat)
 case atStart=>exact ⟨0,by omega,rfl,Lib.hid rfl⟩
 case round =>
  obtain ⟨k,hk,rfl,H⟩:=hrel
  by_cases hlt:k < s.size
  ·have hb:=byteS_in s k hlt
   have hx:=byteS_lt s k
   have hf:s.size - k = (s.size - (k+1))+1:=by omega
   by_cases h128:128 ≤ s[k].toNat
   ·have HE:=Lib.hid (show asciiS s = (k:Int) by rw [H.out,hf,asciiF,hb,if_pos h128])
    clear hb hf hx
    have h128':(128:Int) ≤ (s[k].toNat:Int):=by omega
    go_wp2
    go_ret
    exact ⟨ret_i64 HE.out.symm,rfl⟩
   ·have HE:=Lib.hid (show asciiS s = asciiF s (s.size - (k+1)) (k+1) by rw [H.out,hf,asciiF,hb,if_neg h128])
    clear hb hf hx
    have h128':¬ (128:Int) ≤ (s[k].toNat:Int):=by omega
    go_wp2
    go_round
    case rel=>exact ⟨k+1,by omega,by go_num,HE⟩
    case measure=>simp [intOf];omega
  ·have HE:=Lib.hid (show asciiS s = -1 by rw [H.out,show s.size - k = 0 by omega,asciiF])
   go_wp2
   go_ret
   exact ⟨ret_i64 HE.out.symm,rfl⟩

def Tabs (w:World):Prop:=Lib.Utf8Tabs 0 1 w
theorem Tabs.below {w w':World} (h:Tabs w) (hb:Below w.heap.size w w'):Tabs w':=by
 obtain ⟨h1,h2⟩:=h
 refine ⟨fun c hc=>?_,fun i hi=>?_⟩
 ·exact (hb.cell (World.block_lt_of_cell? w _ (h1 c hc))).trans (h1 c hc)
 ·obtain ⟨e1,e2⟩:=h2 i hi
  exact ⟨(hb.cell (World.block_lt_of_cell? w _ e1)).trans e1,(hb.cell (World.block_lt_of_cell? w _ e2)).trans e2⟩

def utf8F (s:ByteArray):Nat → Nat → Int
 | 0,_=>-1
 | f+1,k=>if k < s.size then (if (Lib.decodeGo (s.extract k s.size)).1 = 65533∧(Lib.decodeGo (s.extract k s.size)).2 = 1 then (k:Int) else utf8F s f (k+(Lib.decodeGo (s.extract k s.size)).2)) else -1
def utf8S (s:ByteArray):Int:=utf8F s s.size 0

theorem tabs_decode (s:ByteArray) (k:Nat) (w:World) (hT:Tabs w) :
  Calls Tryz.prog 119 #[.string (s.extract k s.size)] w fun e w' =>
   e = .returned (.tuple #[.int .i32 (Lib.decodeGo (s.extract k s.size)).1,.int .i64 (Lib.decodeGo (s.extract k s.size)).2])∧Below w.heap.size w w' :=
 Tryz.utf8_DecodeRuneInString _ w hT

theorem decodeGo_bd (s:ByteArray) (k:Nat) (h:k < s.size):1 ≤ (Lib.decodeGo (s.extract k s.size)).2∧(Lib.decodeGo (s.extract k s.size)).2 ≤ s.size - k∧(Lib.decodeGo (s.extract k s.size)).1 ≤ 1114111:=by
 have hsz:(s.extract k s.size).size = s.size - k:=by simp
 unfold Lib.decodeGo
 rw [if_neg (by omega),Lib.decode_at,hsz]
 have hb:∀ x:UInt8,x.toNat < 256:=fun x=>x.toNat_lt
 have h0:=hb ((s.extract k s.size).get! 0)
 generalize ((s.extract k s.size).get! 0).toNat = b0 at *
 generalize ((s.extract k s.size).get! (0+1)).toNat = b1
 generalize ((s.extract k s.size).get! (0+2)).toNat = b2
 generalize ((s.extract k s.size).get! (0+3)).toNat = b3
 generalize hn:s.size - k = n
 have hn1:1 ≤ n:=by omega
 clear hb hsz
 unfold Lib.decodeN
 repeat' split
 all_goals first|(simp only;omega)|omega

set_option maxHeartbeats 2000000 in
theorem utf8_any (s:ByteArray) (w:World) (hs:s.size ≤ 9223372036854775800) (hT:Tabs w) :
  Calls Tryz.prog 100 #[.string s] w fun e w'=>e = .returned (.int .i64 (utf8S s))∧Below w.heap.size w w':=by
 go_enter Tryz.func100,Tryz.ntmps100
 go_wp2
 go_loopw [3] (fun i wr=>∃ k f:Nat,k ≤ s.size∧s.size - k ≤ f∧i = .int .i64 k∧Hid (utf8S s = utf8F s f k)∧Below w.heap.size w wr) (fun i _=>s.size - (intOf i).toNat)
 case atStart=>exact ⟨0,s.size,by omega,by omega,rfl,Lib.hid rfl,Below.refl _ _⟩
 case round =>
  obtain ⟨k,f,hk,hf,rfl,H,hB⟩:=hrel
  by_cases hlt:k < s.size
  ·obtain ⟨f,rfl⟩:∃ f',f = f'+1:=⟨f - 1,by omega⟩
   obtain ⟨hd1,hd2,hd3⟩:=decodeGo_bd s k hlt
   have hs1:=H.out
   rw [utf8F,if_pos hlt] at hs1
   have hc:=tabs_decode s k wr (hT.below hB)
   obtain ⟨r,hr⟩:∃ r,(Lib.decodeGo (s.extract k s.size)).1 = r:=⟨_,rfl⟩
   obtain ⟨m,hm⟩:∃ m,(Lib.decodeGo (s.extract k s.size)).2 = m:=⟨_,rfl⟩
   rw [hr,hm] at hs1 hc
   rw [hr] at hd3
   rw [hm] at hd1 hd2
   clear hr hm H hT
   have HC:=Lib.hid hc
   clear hc
   by_cases c1:r = 65533
   ·by_cases c2:m = 1
    ·subst c1;subst c2
     have HE:=Lib.hid (show utf8S s = (k:Int) by rw [hs1,if_pos ⟨rfl,rfl⟩])
     clear hs1
     go_wp2_with fail
     refine HC.out.mono ?_
     rintro e w' ⟨rfl,hb'⟩
     go_wp2_with fail
     go_ret
     exact ⟨ret_i64 HE.out.symm,hB.trans (hb'.mono hB.size)⟩
    ·subst c1
     have HE:=Lib.hid (show utf8S s = utf8F s f (k+m) by rw [hs1,if_neg (fun h=>c2 h.2)])
     clear hs1
     have c2':((m:Int) == 1) = false:=by simp;omega
     go_wp2_with fail
     refine HC.out.mono ?_
     rintro e w' ⟨rfl,hb'⟩
     go_wp2_with fail
     go_roundw
     case rel=>exact ⟨k+m,f,by omega,by omega,by go_num,HE,hB.trans (hb'.mono hB.size)⟩
     case measure=>simp [intOf];omega
   ·have HE:=Lib.hid (show utf8S s = utf8F s f (k+m) by rw [hs1,if_neg (fun h=>c1 h.1)])
    clear hs1
    have c1':((r:Int) == 65533) = false:=by simp;omega
    go_wp2_with fail
    refine HC.out.mono ?_
    rintro e w' ⟨rfl,hb'⟩
    go_wp2_with fail
    go_roundw
    case rel=>exact ⟨k+m,f,by omega,by omega,by go_num,HE,hB.trans (hb'.mono hB.size)⟩
    case measure=>simp [intOf];omega
  ·have HE:=Lib.hid (show utf8S s = -1 by rw [H.out];cases f <;> simp [utf8F,hlt])
   go_wp2
   go_ret
   exact ⟨ret_i64 HE.out.symm,hB⟩

theorem emp_t (s:ByteArray):(s.toList == []) = decide (s = ⟨#[]⟩):=by
 rw [ByteArray.toList_eq,Bool.eq_iff_iff]
 simp only [beq_iff_eq,decide_eq_true_eq]
 exact ⟨fun h=>by cases s;congr 1;exact Array.toList_inj.1 h,fun h=>by rw [h]⟩
def extraV (v:V):Bool:=(!hasN v.kind && !decide (v.num = 0)) || (!hasT v.kind && !decide (v.text = ⟨#[]⟩)) || (!hasP v.kind && decide (0 < v.list.length)) || (!decide (v.kind = 23) && !decide (v.elem = 0))

theorem extra_any (v:V) (w:World) (s:Value) (h:VIn w v s) :
  Calls Tryz.prog 70 #[.agg #[.int .i64 v.kind,.int .u64 v.num,.string v.text,s,.int .i64 v.elem]] w fun e w'=>e = .returned (.bool (extraV v))∧Below w.heap.size w w':=by
 obtain ⟨p,c,hs,h1,h2,h3⟩:=h.slice
 obtain ⟨N,hN⟩:∃ N,v.list.length = N:=⟨_,rfl⟩
 rw [hN] at hs h1 h3
 subst hs
 unfold maxLen at h2
 obtain ⟨D,hD⟩:∃ D,extraV v = D:=⟨_,rfl⟩
 rw [hD]
 have hh:=fun W=>has_any v.kind W
 unfold extraV at hD
 rw [hN] at hD
 obtain ⟨b1,hb1⟩:∃ b,hasN v.kind = b:=⟨_,rfl⟩
 obtain ⟨b2,hb2⟩:∃ b,hasT v.kind = b:=⟨_,rfl⟩
 obtain ⟨b3,hb3⟩:∃ b,hasP v.kind = b:=⟨_,rfl⟩
 rw [hb1,hb2,hb3] at hh hD
 obtain ⟨z1,hz1⟩:∃ b,decide (v.num = 0) = b:=⟨_,rfl⟩
 obtain ⟨z2,hz2⟩:∃ b,decide (v.text = ⟨#[]⟩) = b:=⟨_,rfl⟩
 obtain ⟨z3,hz3⟩:∃ b,decide (0 < N) = b:=⟨_,rfl⟩
 obtain ⟨z4,hz4⟩:∃ b,decide (v.kind = 23) = b:=⟨_,rfl⟩
 obtain ⟨z5,hz5⟩:∃ b,decide (v.elem = 0) = b:=⟨_,rfl⟩
 rw [hz1,hz2,hz3,hz4,hz5] at hD
 have f1:(v.num == 0) = z1:=by rw [← hz1];rfl
 have f2:(v.text.toList == []) = z2:=by rw [emp_t];exact hz2
 have f3:decide ((0:Int) < N) = z3:=by rw [← hz3,decide_eq_decide];omega
 have f3n:decide (0 < N) = z3:=hz3
 have f4:(v.kind == 23) = z4:=by rw [← hz4];rfl
 have f5:(v.elem == 0) = z5:=by rw [← hz5];rfl
 have g1:(v.num != 0) = !z1:=by rw [← f1];rfl
 have g2:(v.text.toList != []) = !z2:=by rw [← f2];rfl
 have g4:(v.kind != 23) = !z4:=by rw [← f4];rfl
 have g5:(v.elem != 0) = !z5:=by rw [← f5];rfl
 have HH:=zH hh
 have HF:=zH (And.intro f1 (And.intro f2 (And.intro f3 (And.intro f4 (And.intro f5 (And.intro g1 (And.intro g2 (And.intro g4 (And.intro g5 f3n)))))))))
 have HD:=zH hD
 clear hh hD hb1 hb2 hb3 h hN hz1 hz2 hz3 hz4 hz5 f1 f2 f3 f4 f5 g1 g2 g4 g5 f3n
 go_enter Tryz.func70,Tryz.ntmps70
 go_upto_region 1 with fail
 obtain ⟨w0,x,hw,hx,HB0,-,HOx,x0,x1,x2,x3,x4⟩:=bxV w v (.slice p N c)
 rw [hw,hx]
 clear hw hx
 have hh:=HH.out w0
 go_wp2_with fail
 refine hh.mono ?_
 clear hh
 rintro e w1 ⟨rfl,rfl⟩
 obtain ⟨f1,f2,f3,f4,f5,g1,g2,g4,g5,f3n⟩:=HF.out
 have HD2:=HD.out
 cases b1
 ·cases z1
  ·
   simp only [Bool.not_false,Bool.true_or,Bool.and_self] at HD2
   subst HD2
   try simp only [Bool.not_false] at g1
   try simp only [Bool.not_true,Bool.not_false] at g2
   try simp only [Bool.not_true,Bool.not_false] at g4
   try simp only [Bool.not_true,Bool.not_false] at g5
   go_wp2_with fail
   all_goals
    go_ret
    exact ⟨rfl,HB0.out⟩
  ·
   cases b2
   ·cases z2
    ·
     simp only [Bool.not_true,Bool.not_false,Bool.or_true,Bool.true_or,Bool.and_false,Bool.and_self] at HD2
     subst HD2
     try simp only [Bool.not_true] at g1
     try simp only [Bool.not_false] at g2
     try simp only [Bool.not_true,Bool.not_false] at g4
     try simp only [Bool.not_true,Bool.not_false] at g5
     go_wp2_with fail
     all_goals
      go_ret
      exact ⟨rfl,HB0.out⟩
    ·
     cases b3
     ·cases z3
      ·
       cases z4
       ·cases z5
        ·
         simp only [Bool.not_true,Bool.not_false,Bool.or_true,Bool.and_false,Bool.or_self,Bool.and_self] at HD2
         subst HD2
         try simp only [Bool.not_true] at g1
         try simp only [Bool.not_true] at g2
         try simp only [Bool.not_false] at g4
         try simp only [Bool.not_false] at g5
         go_wp2_with fail
         all_goals
          go_ret
          exact ⟨rfl,HB0.out⟩
        ·
         simp only [Bool.not_true,Bool.not_false,Bool.and_false,Bool.or_self] at HD2
         subst HD2
         try simp only [Bool.not_true] at g1
         try simp only [Bool.not_true] at g2
         try simp only [Bool.not_false] at g4
         try simp only [Bool.not_true] at g5
         go_wp2_with fail
         all_goals
          go_ret
          exact ⟨rfl,HB0.out⟩
       ·
        simp only [Bool.not_true,Bool.not_false,Bool.false_and,Bool.and_false,Bool.or_self] at HD2
        subst HD2
        try simp only [Bool.not_true] at g1
        try simp only [Bool.not_true] at g2
        try simp only [Bool.not_true] at g4
        try simp only [Bool.not_true,Bool.not_false] at g5
        go_wp2_with fail
        all_goals
         go_ret
         exact ⟨rfl,HB0.out⟩
      ·
       simp only [Bool.not_true,Bool.not_false,Bool.or_true,Bool.true_or,Bool.and_false,Bool.or_self,Bool.and_self] at HD2
       subst HD2
       try simp only [Bool.not_true] at g1
       try simp only [Bool.not_true] at g2
       try simp only [Bool.not_true,Bool.not_false] at g4
       try simp only [Bool.not_true,Bool.not_false] at g5
       go_wp2_with fail
       all_goals
        go_ret
        exact ⟨rfl,HB0.out⟩
     ·
      cases z4
      ·cases z5
       ·
        simp only [Bool.not_true,Bool.not_false,Bool.false_and,Bool.or_true,Bool.and_false,Bool.or_self,Bool.and_self] at HD2
        subst HD2
        try simp only [Bool.not_true] at g1
        try simp only [Bool.not_true] at g2
        try simp only [Bool.not_false] at g4
        try simp only [Bool.not_false] at g5
        go_wp2_with fail
        all_goals
         go_ret
         exact ⟨rfl,HB0.out⟩
       ·
        simp only [Bool.not_true,Bool.not_false,Bool.false_and,Bool.and_false,Bool.or_self] at HD2
        subst HD2
        try simp only [Bool.not_true] at g1
        try simp only [Bool.not_true] at g2
        try simp only [Bool.not_false] at g4
        try simp only [Bool.not_true] at g5
        go_wp2_with fail
        all_goals
         go_ret
         exact ⟨rfl,HB0.out⟩
      ·
       simp only [Bool.not_true,Bool.not_false,Bool.false_and,Bool.and_false,Bool.or_self] at HD2
       subst HD2
       try simp only [Bool.not_true] at g1
       try simp only [Bool.not_true] at g2
       try simp only [Bool.not_true] at g4
       try simp only [Bool.not_true,Bool.not_false] at g5
       go_wp2_with fail
       all_goals
        go_ret
        exact ⟨rfl,HB0.out⟩
   ·
    cases b3
    ·cases z3
     ·
      cases z4
      ·cases z5
       ·
        simp only [Bool.not_true,Bool.not_false,Bool.false_and,Bool.or_true,Bool.and_false,Bool.or_self,Bool.and_self] at HD2
        subst HD2
        try simp only [Bool.not_true] at g1
        try simp only [Bool.not_true,Bool.not_false] at g2
        try simp only [Bool.not_false] at g4
        try simp only [Bool.not_false] at g5
        go_wp2_with fail
        all_goals
         go_ret
         exact ⟨rfl,HB0.out⟩
       ·
        simp only [Bool.not_true,Bool.not_false,Bool.false_and,Bool.and_false,Bool.or_self] at HD2
        subst HD2
        try simp only [Bool.not_true] at g1
        try simp only [Bool.not_true,Bool.not_false] at g2
        try simp only [Bool.not_false] at g4
        try simp only [Bool.not_true] at g5
        go_wp2_with fail
        all_goals
         go_ret
         exact ⟨rfl,HB0.out⟩
      ·
       simp only [Bool.not_true,Bool.not_false,Bool.false_and,Bool.and_false,Bool.or_self] at HD2
       subst HD2
       try simp only [Bool.not_true] at g1
       try simp only [Bool.not_true,Bool.not_false] at g2
       try simp only [Bool.not_true] at g4
       try simp only [Bool.not_true,Bool.not_false] at g5
       go_wp2_with fail
       all_goals
        go_ret
        exact ⟨rfl,HB0.out⟩
     ·
      simp only [Bool.not_true,Bool.not_false,Bool.false_and,Bool.or_true,Bool.true_or,Bool.and_false,Bool.or_self,Bool.and_self] at HD2
      subst HD2
      try simp only [Bool.not_true] at g1
      try simp only [Bool.not_true,Bool.not_false] at g2
      try simp only [Bool.not_true,Bool.not_false] at g4
      try simp only [Bool.not_true,Bool.not_false] at g5
      go_wp2_with fail
      all_goals
       go_ret
       exact ⟨rfl,HB0.out⟩
    ·
     cases z4
     ·cases z5
      ·
       simp only [Bool.not_true,Bool.not_false,Bool.false_and,Bool.or_true,Bool.and_false,Bool.or_self,Bool.and_self] at HD2
       subst HD2
       try simp only [Bool.not_true] at g1
       try simp only [Bool.not_true,Bool.not_false] at g2
       try simp only [Bool.not_false] at g4
       try simp only [Bool.not_false] at g5
       go_wp2_with fail
       all_goals
        go_ret
        exact ⟨rfl,HB0.out⟩
      ·
       simp only [Bool.not_true,Bool.not_false,Bool.false_and,Bool.and_false,Bool.or_self] at HD2
       subst HD2
       try simp only [Bool.not_true] at g1
       try simp only [Bool.not_true,Bool.not_false] at g2
       try simp only [Bool.not_false] at g4
       try simp only [Bool.not_true] at g5
       go_wp2_with fail
       all_goals
        go_ret
        exact ⟨rfl,HB0.out⟩
     ·
      simp only [Bool.not_true,Bool.not_false,Bool.false_and,Bool.and_false,Bool.or_self] at HD2
      subst HD2
      try simp only [Bool.not_true] at g1
      try simp only [Bool.not_true,Bool.not_false] at g2
      try simp only [Bool.not_true] at g4
      try simp only [Bool.not_true,Bool.not_false] at g5
      go_wp2_with fail
      all_goals
       go_ret
       exact ⟨rfl,HB0.out⟩
 ·
  cases b2
  ·cases z2
   ·
    simp only [Bool.not_true,Bool.not_false,Bool.false_and,Bool.or_true,Bool.true_or,Bool.and_self] at HD2
    subst HD2
    try simp only [Bool.not_true,Bool.not_false] at g1
    try simp only [Bool.not_false] at g2
    try simp only [Bool.not_true,Bool.not_false] at g4
    try simp only [Bool.not_true,Bool.not_false] at g5
    go_wp2_with fail
    all_goals
     go_ret
     exact ⟨rfl,HB0.out⟩
   ·
    cases b3
    ·cases z3
     ·
      cases z4
      ·cases z5
       ·
        simp only [Bool.not_true,Bool.not_false,Bool.false_and,Bool.or_true,Bool.and_false,Bool.or_self,Bool.and_self] at HD2
        subst HD2
        try simp only [Bool.not_true,Bool.not_false] at g1
        try simp only [Bool.not_true] at g2
        try simp only [Bool.not_false] at g4
        try simp only [Bool.not_false] at g5
        go_wp2_with fail
        all_goals
         go_ret
         exact ⟨rfl,HB0.out⟩
       ·
        simp only [Bool.not_true,Bool.not_false,Bool.false_and,Bool.and_false,Bool.or_self] at HD2
        subst HD2
        try simp only [Bool.not_true,Bool.not_false] at g1
        try simp only [Bool.not_true] at g2
        try simp only [Bool.not_false] at g4
        try simp only [Bool.not_true] at g5
        go_wp2_with fail
        all_goals
         go_ret
         exact ⟨rfl,HB0.out⟩
      ·
       simp only [Bool.not_true,Bool.not_false,Bool.false_and,Bool.and_false,Bool.or_self] at HD2
       subst HD2
       try simp only [Bool.not_true,Bool.not_false] at g1
       try simp only [Bool.not_true] at g2
       try simp only [Bool.not_true] at g4
       try simp only [Bool.not_true,Bool.not_false] at g5
       go_wp2_with fail
       all_goals
        go_ret
        exact ⟨rfl,HB0.out⟩
     ·
      simp only [Bool.not_true,Bool.not_false,Bool.false_and,Bool.or_true,Bool.true_or,Bool.and_false,Bool.or_self,Bool.and_self] at HD2
      subst HD2
      try simp only [Bool.not_true,Bool.not_false] at g1
      try simp only [Bool.not_true] at g2
      try simp only [Bool.not_true,Bool.not_false] at g4
      try simp only [Bool.not_true,Bool.not_false] at g5
      go_wp2_with fail
      all_goals
       go_ret
       exact ⟨rfl,HB0.out⟩
    ·
     cases z4
     ·cases z5
      ·
       simp only [Bool.not_true,Bool.not_false,Bool.false_and,Bool.or_true,Bool.and_false,Bool.or_self,Bool.and_self] at HD2
       subst HD2
       try simp only [Bool.not_true,Bool.not_false] at g1
       try simp only [Bool.not_true] at g2
       try simp only [Bool.not_false] at g4
       try simp only [Bool.not_false] at g5
       go_wp2_with fail
       all_goals
        go_ret
        exact ⟨rfl,HB0.out⟩
      ·
       simp only [Bool.not_true,Bool.not_false,Bool.false_and,Bool.and_false,Bool.or_self] at HD2
       subst HD2
       try simp only [Bool.not_true,Bool.not_false] at g1
       try simp only [Bool.not_true] at g2
       try simp only [Bool.not_false] at g4
       try simp only [Bool.not_true] at g5
       go_wp2_with fail
       all_goals
        go_ret
        exact ⟨rfl,HB0.out⟩
     ·
      simp only [Bool.not_true,Bool.not_false,Bool.false_and,Bool.and_false,Bool.or_self] at HD2
      subst HD2
      try simp only [Bool.not_true,Bool.not_false] at g1
      try simp only [Bool.not_true] at g2
      try simp only [Bool.not_true] at g4
      try simp only [Bool.not_true,Bool.not_false] at g5
      go_wp2_with fail
      all_goals
       go_ret
       exact ⟨rfl,HB0.out⟩
  ·
   cases b3
   ·cases z3
    ·
     cases z4
     ·cases z5
      ·
       simp only [Bool.not_true,Bool.not_false,Bool.false_and,Bool.or_true,Bool.and_false,Bool.or_self,Bool.and_self] at HD2
       subst HD2
       try simp only [Bool.not_true,Bool.not_false] at g1
       try simp only [Bool.not_true,Bool.not_false] at g2
       try simp only [Bool.not_false] at g4
       try simp only [Bool.not_false] at g5
       go_wp2_with fail
       all_goals
        go_ret
        exact ⟨rfl,HB0.out⟩
      ·
       simp only [Bool.not_true,Bool.not_false,Bool.false_and,Bool.and_false,Bool.or_self] at HD2
       subst HD2
       try simp only [Bool.not_true,Bool.not_false] at g1
       try simp only [Bool.not_true,Bool.not_false] at g2
       try simp only [Bool.not_false] at g4
       try simp only [Bool.not_true] at g5
       go_wp2_with fail
       all_goals
        go_ret
        exact ⟨rfl,HB0.out⟩
     ·
      simp only [Bool.not_true,Bool.not_false,Bool.false_and,Bool.and_false,Bool.or_self] at HD2
      subst HD2
      try simp only [Bool.not_true,Bool.not_false] at g1
      try simp only [Bool.not_true,Bool.not_false] at g2
      try simp only [Bool.not_true] at g4
      try simp only [Bool.not_true,Bool.not_false] at g5
      go_wp2_with fail
      all_goals
       go_ret
       exact ⟨rfl,HB0.out⟩
    ·
     simp only [Bool.not_true,Bool.not_false,Bool.false_and,Bool.or_true,Bool.true_or,Bool.or_self,Bool.and_self] at HD2
     subst HD2
     try simp only [Bool.not_true,Bool.not_false] at g1
     try simp only [Bool.not_true,Bool.not_false] at g2
     try simp only [Bool.not_true,Bool.not_false] at g4
     try simp only [Bool.not_true,Bool.not_false] at g5
     go_wp2_with fail
     all_goals
      go_ret
      exact ⟨rfl,HB0.out⟩
   ·
    cases z4
    ·cases z5
     ·
      simp only [Bool.not_true,Bool.not_false,Bool.false_and,Bool.or_true,Bool.or_self,Bool.and_self] at HD2
      subst HD2
      try simp only [Bool.not_true,Bool.not_false] at g1
      try simp only [Bool.not_true,Bool.not_false] at g2
      try simp only [Bool.not_false] at g4
      try simp only [Bool.not_false] at g5
      go_wp2_with fail
      all_goals
       go_ret
       exact ⟨rfl,HB0.out⟩
     ·
      simp only [Bool.not_true,Bool.not_false,Bool.false_and,Bool.and_false,Bool.or_self] at HD2
      subst HD2
      try simp only [Bool.not_true,Bool.not_false] at g1
      try simp only [Bool.not_true,Bool.not_false] at g2
      try simp only [Bool.not_false] at g4
      try simp only [Bool.not_true] at g5
      go_wp2_with fail
      all_goals
       go_ret
       exact ⟨rfl,HB0.out⟩
    ·
     simp only [Bool.not_true,Bool.false_and,Bool.or_self] at HD2
     subst HD2
     try simp only [Bool.not_true,Bool.not_false] at g1
     try simp only [Bool.not_true,Bool.not_false] at g2
     try simp only [Bool.not_true] at g4
     try simp only [Bool.not_true,Bool.not_false] at g5
     go_wp2_with fail
     all_goals
      go_ret
      exact ⟨rfl,HB0.out⟩

def within2 (h n:Int):Bool:=decide (-h <= twoC n∧twoC n < h)
def numOk (k n:Int):Bool :=
 if k = 1 then decide (n < 2) else if k = 2 then decide (n < 256) else if k = 3 then decide (n < 65536) else if k = 4 ∨ k = 10 ∨ k = 12 then decide (n < 4294967296)
 else if k = 6 then within2 128 n else if k = 7 then within2 32768 n else if k = 8 then within2 2147483648 n else if k = 15 then decide (n < 55296 ∨ (57343 < n∧n <= 1114111)) else true

theorem isNum_any (v:V) (w:World) (s:Value) (h:VIn w v s) :
  Calls prog 71 #[.agg #[.int .i64 v.kind,.int .u64 v.num,.string v.text,s,.int .i64 v.elem]] w fun e w'=>e = .returned (.bool (numOk v.kind v.num))∧Below w.heap.size w w':=by
 obtain ⟨p,c,hs,h1,h2,h3⟩:=h.slice
 obtain ⟨N,hN⟩:∃ N,v.list.length = N:=⟨_,rfl⟩
 rw [hN] at hs h1 h3
 subst hs
 unfold maxLen at h2
 obtain ⟨D,hD⟩:∃ D,numOk v.kind v.num = D:=⟨_,rfl⟩
 rw [hD]
 have hu:=h.wf.n
 have HU:=zH hu
 obtain ⟨u0,u1⟩:=hu
 clear h hN
 by_cases e1:v.kind = 1
 ·have HDX:=zH (show D = decide (v.num < 2) by rw [← hD,e1];simp [numOk])
  have E:=zH e1
  clear hD e1
  go_enter func71,ntmps71
  go_upto_region 1 with fail
  obtain ⟨w0,x,hw,hx,HB0,-,HOx,x0,x1,-,-,-⟩:=bxV w v (.slice p N c)
  rw [hw,hx]
  clear hw hx
  rw [E.out] at x0
  go_wp2_with fail
  all_goals
   go_ret
   first
    | exact ⟨by rw [HDX.out];rfl,HB0.out⟩
    | (refine ⟨ret_boolV ?_,HB0.out⟩;rw [HDX.out,Bool.eq_iff_iff];simp;omega)
 by_cases e2:v.kind = 2
 ·have HDX:=zH (show D = decide (v.num < 256) by rw [← hD,e2];simp [numOk])
  have E:=zH e2
  clear hD e2
  go_enter func71,ntmps71
  go_upto_region 1 with fail
  obtain ⟨w0,x,hw,hx,HB0,-,HOx,x0,x1,-,-,-⟩:=bxV w v (.slice p N c)
  rw [hw,hx]
  clear hw hx
  rw [E.out] at x0
  go_wp2_with fail
  all_goals
   go_ret
   first
    | exact ⟨by rw [HDX.out];rfl,HB0.out⟩
    | (refine ⟨ret_boolV ?_,HB0.out⟩;rw [HDX.out,Bool.eq_iff_iff];simp;omega)
 by_cases e3:v.kind = 3
 ·have HDX:=zH (show D = decide (v.num < 65536) by rw [← hD,e3];simp [numOk])
  have E:=zH e3
  clear hD e3
  go_enter func71,ntmps71
  go_upto_region 1 with fail
  obtain ⟨w0,x,hw,hx,HB0,-,HOx,x0,x1,-,-,-⟩:=bxV w v (.slice p N c)
  rw [hw,hx]
  clear hw hx
  rw [E.out] at x0
  go_wp2_with fail
  all_goals
   go_ret
   first
    | exact ⟨by rw [HDX.out];rfl,HB0.out⟩
    | (refine ⟨ret_boolV ?_,HB0.out⟩;rw [HDX.out,Bool.eq_iff_iff];simp;omega)
 by_cases e4:v.kind = 4
 ·have HDX:=zH (show D = decide (v.num < 4294967296) by rw [← hD,e4];simp [numOk])
  have E:=zH e4
  clear hD e4
  go_enter func71,ntmps71
  go_upto_region 1 with fail
  obtain ⟨w0,x,hw,hx,HB0,-,HOx,x0,x1,-,-,-⟩:=bxV w v (.slice p N c)
  rw [hw,hx]
  clear hw hx
  rw [E.out] at x0
  go_wp2_with fail
  all_goals
   go_ret
   first
    | exact ⟨by rw [HDX.out];rfl,HB0.out⟩
    | (refine ⟨ret_boolV ?_,HB0.out⟩;rw [HDX.out,Bool.eq_iff_iff];simp;omega)
 by_cases e10:v.kind = 10
 ·have HDX:=zH (show D = decide (v.num < 4294967296) by rw [← hD,e10];simp [numOk])
  have E:=zH e10
  clear hD e10
  go_enter func71,ntmps71
  go_upto_region 1 with fail
  obtain ⟨w0,x,hw,hx,HB0,-,HOx,x0,x1,-,-,-⟩:=bxV w v (.slice p N c)
  rw [hw,hx]
  clear hw hx
  rw [E.out] at x0
  go_wp2_with fail
  all_goals
   go_ret
   first
    | exact ⟨by rw [HDX.out];rfl,HB0.out⟩
    | (refine ⟨ret_boolV ?_,HB0.out⟩;rw [HDX.out,Bool.eq_iff_iff];simp;omega)
 by_cases e12:v.kind = 12
 ·have HDX:=zH (show D = decide (v.num < 4294967296) by rw [← hD,e12];simp [numOk])
  have E:=zH e12
  clear hD e12
  go_enter func71,ntmps71
  go_upto_region 1 with fail
  obtain ⟨w0,x,hw,hx,HB0,-,HOx,x0,x1,-,-,-⟩:=bxV w v (.slice p N c)
  rw [hw,hx]
  clear hw hx
  rw [E.out] at x0
  go_wp2_with fail
  all_goals
   go_ret
   first
    | exact ⟨by rw [HDX.out];rfl,HB0.out⟩
    | (refine ⟨ret_boolV ?_,HB0.out⟩;rw [HDX.out,Bool.eq_iff_iff];simp;omega)
 by_cases e6:v.kind = 6
 ·have HDX:=zH (show D = within2 128 v.num by rw [← hD,e6];simp [numOk])
  have E:=zH e6
  clear hD e6
  go_enter func71,ntmps71
  go_upto_region 1 with fail
  obtain ⟨w0,x,hw,hx,HB0,-,HOx,x0,x1,-,-,-⟩:=bxV w v (.slice p N c)
  rw [hw,hx]
  clear hw hx
  rw [E.out] at x0
  have hc:=within8_any v.num w0 HU.out
  go_wp2_with fail
  refine hc.mono ?_
  clear hc
  rintro e w1 ⟨rfl,rfl⟩
  go_wp2_with fail
  go_ret
  refine ⟨ret_boolV ?_,HB0.out⟩
  rw [HDX.out]
  simp [within2]
 by_cases e7:v.kind = 7
 ·have HDX:=zH (show D = within2 32768 v.num by rw [← hD,e7];simp [numOk])
  have E:=zH e7
  clear hD e7
  go_enter func71,ntmps71
  go_upto_region 1 with fail
  obtain ⟨w0,x,hw,hx,HB0,-,HOx,x0,x1,-,-,-⟩:=bxV w v (.slice p N c)
  rw [hw,hx]
  clear hw hx
  rw [E.out] at x0
  have hc:=within16_any v.num w0 HU.out
  go_wp2_with fail
  refine hc.mono ?_
  clear hc
  rintro e w1 ⟨rfl,rfl⟩
  go_wp2_with fail
  go_ret
  refine ⟨ret_boolV ?_,HB0.out⟩
  rw [HDX.out]
  simp [within2]
 by_cases e8:v.kind = 8
 ·have HDX:=zH (show D = within2 2147483648 v.num by rw [← hD,e8];simp [numOk])
  have E:=zH e8
  clear hD e8
  go_enter func71,ntmps71
  go_upto_region 1 with fail
  obtain ⟨w0,x,hw,hx,HB0,-,HOx,x0,x1,-,-,-⟩:=bxV w v (.slice p N c)
  rw [hw,hx]
  clear hw hx
  rw [E.out] at x0
  have hc:=within32_any v.num w0 HU.out
  go_wp2_with fail
  refine hc.mono ?_
  clear hc
  rintro e w1 ⟨rfl,rfl⟩
  go_wp2_with fail
  go_ret
  refine ⟨ret_boolV ?_,HB0.out⟩
  rw [HDX.out]
  simp [within2]
 by_cases e15:v.kind = 15
 ·have HDX:=zH (show D = decide (v.num < 55296 ∨ (57343 < v.num∧v.num <= 1114111)) by rw [← hD,e15];simp [numOk])
  have E:=zH e15
  clear hD e15
  go_enter func71,ntmps71
  go_upto_region 1 with fail
  obtain ⟨w0,x,hw,hx,HB0,-,HOx,x0,x1,-,-,-⟩:=bxV w v (.slice p N c)
  rw [hw,hx]
  clear hw hx
  rw [E.out] at x0
  go_wp2_with fail
  all_goals
   go_ret
   first
    | exact ⟨by rw [HDX.out];rfl,HB0.out⟩
    | (refine ⟨ret_boolV ?_,HB0.out⟩;rw [HDX.out,Bool.eq_iff_iff];simp;omega)
 have HDX:=zH (show D = true by rw [← hD];simp [numOk,e1,e2,e3,e4,e10,e12,e6,e7,e8,e15])
 have m1:(v.kind == 1) = false:=by simpa using e1
 have m2:(v.kind == 2) = false:=by simpa using e2
 have m3:(v.kind == 3) = false:=by simpa using e3
 have m4:(v.kind == 4) = false:=by simpa using e4
 have m10:(v.kind == 10) = false:=by simpa using e10
 have m12:(v.kind == 12) = false:=by simpa using e12
 have m6:(v.kind == 6) = false:=by simpa using e6
 have m7:(v.kind == 7) = false:=by simpa using e7
 have m8:(v.kind == 8) = false:=by simpa using e8
 have m15:(v.kind == 15) = false:=by simpa using e15
 clear hD e1 e2 e3 e4 e10 e12 e6 e7 e8 e15
 go_enter func71,ntmps71
 go_upto_region 1 with fail
 obtain ⟨w0,x,hw,hx,HB0,-,HOx,x0,-,-,-,-⟩:=bxV w v (.slice p N c)
 rw [hw,hx]
 clear hw hx
 go_wp2_with fail
 go_ret
 exact ⟨by rw [HDX.out];rfl,HB0.out⟩
def textOk (k:Int) (t:ByteArray):Bool:=if k = 14 ∨ k = 17 then decide (t.size = 16) else if k = 19 then decide (utf8S t < 0) else if k = 20 then decide (asciiS t < 0) else true

theorem isText_any (v:V) (w:World) (s:Value) (h:VIn w v s) (hT:Tabs w) (hts:v.text.size <= 9223372036854775800) :
  Calls prog 72 #[.agg #[.int .i64 v.kind,.int .u64 v.num,.string v.text,s,.int .i64 v.elem]] w fun e w'=>e = .returned (.bool (textOk v.kind v.text))∧Below w.heap.size w w':=by
 obtain ⟨p,c,hs,h1,h2,h3⟩:=h.slice
 obtain ⟨N,hN⟩:∃ N,v.list.length = N:=⟨_,rfl⟩
 rw [hN] at hs h1 h3
 subst hs
 unfold maxLen at h2
 obtain ⟨D,hD⟩:∃ D,textOk v.kind v.text = D:=⟨_,rfl⟩
 rw [hD]
 have HT:=zH hT
 have HTS:=zH hts
 have hts2:v.text.size <= 9223372036854775807:=by omega
 clear h hN hT hts
 by_cases e14:v.kind = 14
 ·have HDX:=zH (show D = decide (v.text.size = 16) by rw [← hD,e14];simp [textOk])
  have E:=zH e14
  clear hD e14
  go_enter func72,ntmps72
  go_upto_region 1 with fail
  obtain ⟨w0,x,hw,hx,HB0,-,HOx,x0,-,x2,-,-⟩:=bxV w v (.slice p N c)
  rw [hw,hx]
  clear hw hx
  rw [E.out] at x0
  have hsz:((v.text.size:Int) == 16) = decide (v.text.size = 16):=by rw [Bool.eq_iff_iff];simp;omega
  go_wp2_with fail
  all_goals
   go_ret
   first
    | exact ⟨by rw [HDX.out];rfl,HB0.out⟩
    | (refine ⟨ret_boolV ?_,HB0.out⟩;rw [HDX.out,Bool.eq_iff_iff];simp;try omega)
 by_cases e17:v.kind = 17
 ·have HDX:=zH (show D = decide (v.text.size = 16) by rw [← hD,e17];simp [textOk])
  have E:=zH e17
  clear hD e17
  go_enter func72,ntmps72
  go_upto_region 1 with fail
  obtain ⟨w0,x,hw,hx,HB0,-,HOx,x0,-,x2,-,-⟩:=bxV w v (.slice p N c)
  rw [hw,hx]
  clear hw hx
  rw [E.out] at x0
  have hsz:((v.text.size:Int) == 16) = decide (v.text.size = 16):=by rw [Bool.eq_iff_iff];simp;omega
  go_wp2_with fail
  all_goals
   go_ret
   first
    | exact ⟨by rw [HDX.out];rfl,HB0.out⟩
    | (refine ⟨ret_boolV ?_,HB0.out⟩;rw [HDX.out,Bool.eq_iff_iff];simp;try omega)
 by_cases e19:v.kind = 19
 ·have HDX:=zH (show D = decide (utf8S v.text < 0) by rw [← hD,e19];simp [textOk])
  have E:=zH e19
  clear hD e19
  go_enter func72,ntmps72
  go_upto_region 1 with fail
  obtain ⟨w0,x,hw,hx,HB0,-,HOx,x0,-,x2,-,-⟩:=bxV w v (.slice p N c)
  rw [hw,hx]
  clear hw hx
  rw [E.out] at x0
  have hc:=utf8_any v.text w0 HTS.out (HT.out.below HB0.out)
  go_wp2_with fail
  refine hc.mono ?_
  clear hc
  rintro e w1 ⟨rfl,hb1⟩
  go_wp2_with fail
  go_ret
  exact ⟨by rw [HDX.out];rfl,HB0.out.trans (hb1.mono HB0.out.size)⟩
 by_cases e20:v.kind = 20
 ·have HDX:=zH (show D = decide (asciiS v.text < 0) by rw [← hD,e20];simp [textOk])
  have E:=zH e20
  clear hD e20
  go_enter func72,ntmps72
  go_upto_region 1 with fail
  obtain ⟨w0,x,hw,hx,HB0,-,HOx,x0,-,x2,-,-⟩:=bxV w v (.slice p N c)
  rw [hw,hx]
  clear hw hx
  rw [E.out] at x0
  have hc:=ascii_any v.text w0 (by have:=HTS.out;omega)
  go_wp2_with fail
  refine hc.mono ?_
  clear hc
  rintro e w1 ⟨rfl,rfl⟩
  go_wp2_with fail
  go_ret
  exact ⟨by rw [HDX.out];rfl,HB0.out⟩
 have HDX:=zH (show D = true by rw [← hD];simp [textOk,e14,e17,e19,e20])
 have m14:(v.kind == 14) = false:=by simpa using e14
 have m17:(v.kind == 17) = false:=by simpa using e17
 have m19:(v.kind == 19) = false:=by simpa using e19
 have m20:(v.kind == 20) = false:=by simpa using e20
 clear hD e14 e17 e19 e20
 go_enter func72,ntmps72
 go_upto_region 1 with fail
 obtain ⟨w0,x,hw,hx,HB0,-,HOx,x0,-,-,-,-⟩:=bxV w v (.slice p N c)
 rw [hw,hx]
 clear hw hx
 go_wp2_with fail
 go_ret
 exact ⟨by rw [HDX.out];rfl,HB0.out⟩

def Alike (v:V) (el:Int):Prop:=∀ x ∈ v.list,x.kind = el
instance (v:V) (el:Int):Decidable (Alike v el):=by unfold Alike;infer_instance
def arrOk (v:V):Bool:=decide (0 < v.elem∧v.elem < 24∧Alike v v.elem)

theorem unlike_any (x:V) (t:Value) (w:World) (b:Nat) (el:Int) (h:VIn w x t) (hc:w.cell? ⟨b,4,none⟩ = some (.int .i64 el)) :
  Calls prog 105 #[.agg #[.int .i64 x.kind,.int .u64 x.num,.string x.text,t,.int .i64 x.elem],.pointer (some ⟨b,0,none⟩)] w fun e w'=>e = .returned (.bool (x.kind != el))∧Below w.heap.size w w':=by
 obtain ⟨p,c,hs,h1,h2,h3⟩:=h.slice
 obtain ⟨N,hN⟩:∃ N,x.list.length = N:=⟨_,rfl⟩
 rw [hN] at hs
 subst hs
 have HC:=zH hc
 clear h1 h2 h3 h hN hc
 go_enter func105,ntmps105
 go_upto_region 1 with fail
 have hb0:Below w.heap.size w (w.alloc (.cells #[.int .i64 x.kind,.int .u64 x.num,.string x.text,(.slice p N c),.int .i64 x.elem] 25)):=((Below.refl _ _).alloc (Nat.le_refl _) _)
 have oy:=zN w (.cells #[.int .i64 x.kind,.int .u64 x.num,.string x.text,(.slice p N c),.int .i64 x.elem] 25)
 generalize (w.alloc (.cells #[.int .i64 x.kind,.int .u64 x.num,.string x.text,(.slice p N c),.int .i64 x.elem] 25)) = w0 at *
 obtain ⟨y,hy⟩:∃ x,w.heap.size = x:=⟨_,rfl⟩
 rw [hy] at oy ⊢
 have HB0:=zH hb0
 have HOy:=zH oy
 clear hb0 oy hy
 have y0:w0.cell? ⟨y,0,none⟩ = some (.int .i64 x.kind):=(cell_of_row _ _ 0 _ _ _ HOy.out).trans rfl
 have hb0:=HB0.out
 have c4:=bs_cellV hb0 HC.out
 clear hb0
 go_wp2_with fail
 all_goals
  go_ret
  exact ⟨rfl,HB0.out⟩
theorem index_any (v:V) (w:World) (s:Value) (bx:Nat) (el:Int) (h:VIn w v s) (hc:w.cell? ⟨bx,4,none⟩ = some (.int .i64 el)) :
  Calls prog 127 #[s,.func (.func 105) #[] #[.pointer (some ⟨bx,0,none⟩)]] w fun e w'=>∃ m:Int,e = .returned (.int .i64 m)∧(0 <= m ↔ ¬ Alike v el)∧Below w.heap.size w w':=by
 obtain ⟨p,c,hs,h1,h2,h3⟩:=h.slice
 obtain ⟨N,hN⟩:∃ N,v.list.length = N:=⟨_,rfl⟩
 rw [hN] at hs h1 h3
 subst hs
 unfold maxLen at h2
 have HN:=zH hN
 have HV:=zH h
 have HC:=zH hc
 clear h hN hc
 have eg:∀ args w,(callFunc 105 args).run prog w = .ok (.enter 105 args) w:=enters_of func105 (by kernel_rfl) rfl
 go_enter func127,ntmps127
 go_wp2_with fail
 go_loopw [8] (fun v5 wr=>∃ k:Nat,k <= N∧v5 = .int .i64 k∧(∀ j (j1:j < v.list.length),j < k -> v.list[j].kind = el)∧Below w.heap.size w wr) (fun v5 _=>N - (intOf v5).toNat)
 case atStart=>exact ⟨0,Nat.zero_le _,rfl,fun j _ h=>by omega,Below.refl _ _⟩
 obtain ⟨k,hk',rfl,hsame,hbw⟩:=hrel
 have HR:=zH (And.intro hsame hbw)
 clear hsame hbw
 by_cases hkN:(k:Int) < N
 ·have ka:k < v.list.length:=by rw [HN.out];omega
  obtain ⟨b1,o1,rfl⟩:=h3 (by omega)
  obtain ⟨ta,hta,hia⟩:=(HV.out.blw HR.out.2).part rfl ka
  obtain ⟨c0,c1,c2,c3,c4⟩:=part_cells hta
  have hcl:=unlike_any v.list[k] ta wr bx el hia (bs_cellV HR.out.2 HC.out)
  have HS:=zH (show v.list[k].kind = el -> ∀ j (j1:j < v.list.length),j < k+1 -> v.list[j].kind = el from fun he j j1 hj=>by
   by_cases e:j = k
   ·subst e;exact he
   ·exact HR.out.1 j j1 (by omega))
  have HF:=zH (show v.list[k].kind ≠ el -> ¬ Alike v el from fun he q=>he (q _ (List.getElem_mem ka)))
  generalize v.list[k] = y at *
  obtain ⟨pa,ca,hsa,_⟩:=hia.slice
  subst hsa
  obtain ⟨na,hna⟩:∃ na,y.list.length = na:=⟨_,rfl⟩
  rw [hna] at c3 hcl
  clear hta hia hna
  by_cases hz:y.kind = el
  ·have hzz:(y.kind != el) = false:=by simpa using hz
   rw [hzz] at hcl
   have HS2:=zH (HS.out hz)
   clear hzz hz
   have HCL:=zH hcl
   clear hcl
   go_wp2_with fail
   refine HCL.out.mono ?_
   rintro e w1 ⟨rfl,hb1⟩
   have HB1:=zH (HR.out.2.trans (hb1.mono HR.out.2.size))
   clear hb1 c0 c1 c2 c3 c4
   go_wp2_with fail
   go_roundw
   case rel=>exact ⟨k+1,by omega,by go_num,HS2.out,HB1.out⟩
   case measure=>simp [intOf];omega
  ·have hzz:(y.kind != el) = true:=by simpa using hz
   rw [hzz] at hcl
   have HF2:=zH (HF.out hz)
   clear hzz hz
   have HCL:=zH hcl
   clear hcl
   go_wp2_with fail
   refine HCL.out.mono ?_
   rintro e w1 ⟨rfl,hb1⟩
   have HB1:=zH (HR.out.2.trans (hb1.mono HR.out.2.size))
   clear hb1 c0 c1 c2 c3 c4
   go_wp2_with fail
   go_ret
   exact ⟨k,rfl,⟨fun _=>HF2.out,fun _=>by omega⟩,HB1.out⟩
 have HE:=zH (show Alike v el from fun x hx=>by
  obtain ⟨j,hj,rfl⟩:=List.getElem_of_mem hx
  exact HR.out.1 j hj (by have:=HN.out;omega))
 go_wp2_with fail
 go_ret
 exact ⟨-1,rfl,⟨fun q=>by omega,fun q=>(q HE.out).elim⟩,HR.out.2⟩
theorem contains_any (v:V) (w:World) (s:Value) (bx:Nat) (el:Int) (h:VIn w v s) (hc:w.cell? ⟨bx,4,none⟩ = some (.int .i64 el)) :
  Calls prog 104 #[s,.func (.func 105) #[] #[.pointer (some ⟨bx,0,none⟩)]] w fun e w'=>e = .returned (.bool (decide (¬ Alike v el)))∧Below w.heap.size w w':=by
 have hc:=index_any v w s bx el h hc
 obtain ⟨p,c,hs,h1,h2,h3⟩:=h.slice
 subst hs
 clear h
 go_enter func104,ntmps104
 go_wp2_with fail
 refine hc.mono ?_
 clear hc
 rintro e w1 ⟨m,rfl,hm,hb1⟩
 have HM:=zH (And.intro hm hb1)
 clear hm hb1
 go_wp2_with fail
 all_goals
  go_ret
  refine ⟨ret_boolV ?_,HM.out.2⟩
  rw [Bool.eq_iff_iff]
  simp only [decide_eq_true_eq,← HM.out.1]
theorem isArray_any (v:V) (w:World) (s:Value) (h:VIn w v s) :
  Calls prog 74 #[.agg #[.int .i64 v.kind,.int .u64 v.num,.string v.text,s,.int .i64 v.elem]] w fun e w'=>e = .returned (.bool (arrOk v))∧Below w.heap.size w w':=by
 obtain ⟨p,c,hs,h1,h2,h3⟩:=h.slice
 obtain ⟨N,hN⟩:∃ N,v.list.length = N:=⟨_,rfl⟩
 rw [hN] at hs h1 h3
 subst hs
 unfold maxLen at h2
 obtain ⟨D,hD⟩:∃ D,arrOk v = D:=⟨_,rfl⟩
 rw [hD]
 have HD:=zH hD
 have HV:=zH h
 have HN:=zH hN
 have hmf:∀ (fn:Fn) (first cap:Array Value) (w:World),(Instr.makeFunc fn first cap).run prog w = .ok (.func fn first cap) w:=fun _ _ _ _=>rfl
 clear h hN hD
 go_enter func74,ntmps74
 go_upto_region 1 with fail
 obtain ⟨w0,x,hw,hx,HB0,-,HOx,-,-,-,x3,x4⟩:=bxV w v (.slice p N c)
 rw [hw,hx]
 clear hw hx
 have hcon:=contains_any v w0 _ x v.elem (HV.out.blw HB0.out) x4
 have HC:=zH hcon
 clear hcon
 by_cases e1:v.elem <= 0
 ·have HDX:=zH (show D = false by rw [← HD.out];exact decide_eq_false (fun q=>by omega))
  go_wp2_with fail
  all_goals
   go_ret
   exact ⟨by rw [HDX.out];rfl,HB0.out⟩
 by_cases e2:24 <= v.elem
 ·have HDX:=zH (show D = false by rw [← HD.out];exact decide_eq_false (fun q=>by omega))
  go_wp2_with fail
  all_goals
   go_ret
   exact ⟨by rw [HDX.out];rfl,HB0.out⟩
 ·have HDX:=zH (show D = !(decide (¬ Alike v v.elem)) by
   rw [← HD.out,Bool.eq_iff_iff]
   simp only [arrOk,decide_eq_true_eq,Bool.not_eq_true',decide_eq_false_iff_not,Classical.not_not]
   exact ⟨fun q=>q.2.2,fun q=>⟨by omega,by omega,q⟩⟩)
  have hz:∃ z,decide (¬ Alike v v.elem) = z:=⟨_,rfl⟩
  obtain ⟨z,hz⟩:=hz
  have HZ:=zH hz
  have hcon:=HC.out
  rw [hz] at hcon
  have HC2:=zH hcon
  clear hz hcon
  go_wp2_with fail
  refine HC2.out.mono ?_
  rintro e w1 ⟨rfl,hb1⟩
  have HB1:=zH (HB0.out.trans (hb1.mono HB0.out.size))
  clear hb1 x3 x4
  go_wp2_with fail
  all_goals
   go_ret
   exact ⟨by rw [HDX.out,HZ.out];first|rfl|simp_all,HB1.out⟩
end Go.Proofs.YtnnnfhobbnjmfaaGreatDoor
