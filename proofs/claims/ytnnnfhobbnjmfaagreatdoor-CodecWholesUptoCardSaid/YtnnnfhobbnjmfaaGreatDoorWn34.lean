/-
  Lemmas on the codec. Conditions: as each says.
-/
import Derived.Test.YtnnnfhobbnjmfaaGreatDoorWn04
namespace Go.Proofs.YtnnnfhobbnjmfaaGreatDoor
open Go.RowKit
set_option linter.all false

theorem txret_bool {a b:Bool} (h:a = b):Ending.returned (.bool a) = .returned (.bool b):=by rw [h]
theorem refAscii_any (s:ByteArray) (w:World) (hs:s.size ≤ 9223372036854775807) :
  Calls Tryz.prog 130 #[.string s] w fun e w'=>e = .returned (.int .i64 (asciiS s))∧w = w':=by
 go_enter Tryz.func130,Tryz.ntmps130
 go_wp2
 go_loop [3] (fun i=>∃ k:Nat,k ≤ s.size∧i = .int .i64 k∧Hid (asciiS s = asciiF s (s.size - k) k)) (fun i=>s.size - (intOf i).toNat)
 case atStart=>exact ⟨0,by omega,rfl,Lib.hid rfl⟩
 case round =>
  obtain ⟨k,hk,rfl,H⟩:=hrel
  by_cases hlt:k < s.size
  ·have hb:=byteS_in s k hlt
   have hx:=byteS_lt s k
   have hf:s.size - k = (s.size - (k+1))+1:=by omega
   by_cases h128:128 ≤ s[k].toNat
   ·have HE:=Lib.hid (show asciiS s = (k:Int) by rw [H.out,hf,asciiF,hb,if_pos h128])
    clear hb hf hx
    have h128':(127:Int) < (s[k].toNat:Int):=by omega
    go_wp2
    go_ret
    exact ⟨ret_i64 HE.out.symm,rfl⟩
   ·have HE:=Lib.hid (show asciiS s = asciiF s (s.size - (k+1)) (k+1) by rw [H.out,hf,asciiF,hb,if_neg h128])
    clear hb hf hx
    have h128':¬ (127:Int) < (s[k].toNat:Int):=by omega
    go_wp2
    go_round
    case rel=>exact ⟨k+1,by omega,by go_num,HE⟩
    case measure=>simp [intOf];omega
  ·have HE:=Lib.hid (show asciiS s = -1 by rw [H.out,show s.size - k = 0 by omega,asciiF])
   go_wp2
   go_ret
   exact ⟨ret_i64 HE.out.symm,rfl⟩

def txinW (s:ByteArray) (p lo hi:Nat):Bool:=decide (p < s.size∧lo ≤ byteS s p∧byteS s p ≤ hi)

theorem txwithin_any (s:ByteArray) (w:World) (p lo hi:Nat) (hs:s.size ≤ 9223372036854775807) :
  Calls Tryz.prog 156 #[.string s,.int .i64 p,.int .i64 lo,.int .i64 hi] w fun e w'=>e = .returned (.bool (txinW s p lo hi))∧w = w':=by
 by_cases hlt:p < s.size
 ·have hb:=byteS_in s p hlt
  have hx:(s[p].toNat:Int) < 256:=by have:=s[p].toNat_lt;omega
  have hx0:(0:Int) ≤ (s[p].toNat:Int):=by omega
  by_cases h1:lo ≤ s[p].toNat
  ·by_cases h2:s[p].toNat ≤ hi
   ·have HE:=Lib.hid (show txinW s p lo hi = true by unfold txinW;rw [hb];simp [hlt,h1,h2])
    clear hb
    have h1':(lo:Int) ≤ (s[p].toNat:Int):=by omega
    have h2':(s[p].toNat:Int) ≤ (hi:Int):=by omega
    go_enter Tryz.func156,Tryz.ntmps156
    go_wp2
    go_ret
    exact ⟨txret_bool (by rw [HE.out]),rfl⟩
   ·have HE:=Lib.hid (show txinW s p lo hi = false by unfold txinW;rw [hb];simp [hlt,h1,h2])
    clear hb
    have h1':(lo:Int) ≤ (s[p].toNat:Int):=by omega
    have h2':decide ((s[p].toNat:Int) ≤ (hi:Int)) = false:=by simp;omega
    go_enter Tryz.func156,Tryz.ntmps156
    go_wp2
    go_ret
    exact ⟨txret_bool (by rw [HE.out]),rfl⟩
  ·have HE:=Lib.hid (show txinW s p lo hi = false by unfold txinW;rw [hb];simp [hlt,h1])
   clear hb
   have h1':decide ((lo:Int) ≤ (s[p].toNat:Int)) = false:=by simp;omega
   go_enter Tryz.func156,Tryz.ntmps156
   go_wp2
   go_ret
   exact ⟨txret_bool (by rw [HE.out]),rfl⟩
 ·have HE:=Lib.hid (show txinW s p lo hi = false by unfold txinW;simp [hlt])
  go_enter Tryz.func156,Tryz.ntmps156
  go_wp2
  go_ret
  exact ⟨txret_bool (by rw [HE.out]),rfl⟩

def txtailW (s:ByteArray) (p:Nat):Nat → Bool
 | 0=>true
 | n+1=>txinW s p 128 191 && txtailW s (p+1) n

theorem txtail_any (s:ByteArray) (w:World) (p n:Nat) (hs:s.size ≤ 9223372036854775800) (hp:p ≤ s.size+8) (hn:n ≤ 4) (hs2:s.size+16 ≤ 9223372036854775807) :
  Calls Tryz.prog 159 #[.string s,.int .i64 p,.int .i64 n] w fun e w'=>e = .returned (.bool (txtailW s p n))∧w = w':=by
 go_enter Tryz.func159,Tryz.ntmps159
 go_wp2
 go_loop [7] (fun i=>∃ k:Nat,k ≤ n∧i = .int .i64 k∧Hid (txtailW s p n = txtailW s (p+k) (n - k))) (fun i=>n - (intOf i).toNat)
 case atStart=>exact ⟨0,by omega,rfl,Lib.hid rfl⟩
 case round =>
  obtain ⟨k,hk,rfl,H⟩:=hrel
  by_cases hlt:k < n
  ·have hf:n - k = (n - (k+1))+1:=by omega
   have hh:=H.out
   rw [hf,txtailW] at hh
   have hc:=txwithin_any s w (p+k) 128 191 (by omega)
   rw [show ((p+k:Nat):Int) = (p:Int)+(k:Int) by omega] at hc
   have HC:=Lib.hid hc
   clear hc hf H
   cases hb:txinW s (p+k) 128 191 with
   | true =>
    rw [hb,Bool.true_and] at hh
    have HH:=Lib.hid hh
    have HBB:=Lib.hid hb
    clear hh hb
    go_wp2_with fail
    refine HC.out.mono ?_
    rintro e w' ⟨rfl,rfl⟩
    rw [HBB.out]
    go_wp2_with fail
    go_round
    case rel=>exact ⟨k+1,by omega,by go_num,Lib.hid (by rw [HH.out,Nat.add_assoc])⟩
    case measure=>simp [intOf];omega
   | false =>
    rw [hb,Bool.false_and] at hh
    have HH:=Lib.hid hh
    have HBB:=Lib.hid hb
    clear hh hb
    go_wp2_with fail
    refine HC.out.mono ?_
    rintro e w' ⟨rfl,rfl⟩
    rw [HBB.out]
    go_wp2_with fail
    go_ret
    exact ⟨txret_bool (by rw [HH.out]),rfl⟩
  ·have HH:=Lib.hid (show txtailW s p n = true by rw [H.out,show n - k = 0 by omega,txtailW])
   go_wp2_with fail
   go_ret
   exact ⟨txret_bool (by rw [HH.out]),rfl⟩

def txpairW (s:ByteArray) (p a b c d more:Nat):Bool:=txinW s p a b && (txinW s (p+1) c d && txtailW s (p+2) more)

theorem txpair_any (s:ByteArray) (w:World) (p a b c d more:Nat) (hp:p ≤ s.size) (hn:more ≤ 4) (hs2:s.size+16 ≤ 9223372036854775807) :
  Calls Tryz.prog 157 #[.string s,.int .i64 p,.int .i64 a,.int .i64 b,.int .i64 c,.int .i64 d,.int .i64 more] w fun e w'=>e = .returned (.bool (txpairW s p a b c d more))∧w = w':=by
 have hc1:=txwithin_any s w p a b (by omega)
 have hc2:=txwithin_any s w (p+1) c d (by omega)
 have hc3:=txtail_any s w (p+2) more (by omega) (by omega) hn (by omega)
 rw [show ((p+1:Nat):Int) = (p:Int)+1 by omega] at hc2
 rw [show ((p+2:Nat):Int) = (p:Int)+2 by omega] at hc3
 have HP:=Lib.hid (show txpairW s p a b c d more = (txinW s p a b && (txinW s (p+1) c d && txtailW s (p+2) more)) from rfl)
 obtain ⟨b1,hb1⟩:∃ x,txinW s p a b = x:=⟨_,rfl⟩
 obtain ⟨b2,hb2⟩:∃ x,txinW s (p+1) c d = x:=⟨_,rfl⟩
 obtain ⟨b3,hb3⟩:∃ x,txtailW s (p+2) more = x:=⟨_,rfl⟩
 have HP2:Hid (txpairW s p a b c d more = (b1 && (b2 && b3))):=by rw [HP.out,hb1,hb2,hb3];exact Lib.hid rfl
 rw [hb1] at hc1
 rw [hb2] at hc2
 rw [hb3] at hc3
 have HC1:=Lib.hid hc1
 have HC2:=Lib.hid hc2
 have HC3:=Lib.hid hc3
 clear hc1 hc2 hc3 hb1 hb2 hb3 HP
 cases b1
 all_goals cases b2
 all_goals cases b3
 all_goals
  go_enter Tryz.func157,Tryz.ntmps157
  go_wp2_with fail
  refine HC1.out.mono ?_
  rintro e w' ⟨rfl,rfl⟩
  go_wp2_with fail
  refine HC2.out.mono ?_
  rintro e w' ⟨rfl,rfl⟩
  go_wp2_with fail
  refine HC3.out.mono ?_
  rintro e w' ⟨rfl,rfl⟩
  go_wp2_with fail
  go_ret
  exact ⟨txret_bool (by rw [HP2.out];rfl),rfl⟩

def txcharW (s:ByteArray) (p:Nat):Nat :=
 if txinW s p 0 127 then 1 else if txpairW s p 194 223 128 191 0 then 2
 else if txpairW s p 224 224 160 191 1 || (txpairW s p 225 236 128 191 1 || (txpairW s p 237 237 128 159 1 || txpairW s p 238 239 128 191 1)) then 3
 else if txpairW s p 240 240 144 191 2 || (txpairW s p 241 243 128 191 2 || txpairW s p 244 244 128 143 2) then 4 else 0

set_option maxHeartbeats 4000000 in
theorem txchar_any (s:ByteArray) (w:World) (p:Nat) (hp:p ≤ s.size) (hs2:s.size+16 ≤ 9223372036854775807) :
  Calls Tryz.prog 149 #[.string s,.int .i64 p] w fun e w'=>e = .returned (.int .i64 (txcharW s p))∧w = w':=by
 have h0:Calls Tryz.prog 156 #[.string s,.int .i64 p,.int .i64 0,.int .i64 127] w fun e w'=>e = .returned (.bool (txinW s p 0 127))∧w = w':=txwithin_any s w p 0 127 (by omega)
 have h1:Calls Tryz.prog 157 #[.string s,.int .i64 p,.int .i64 194,.int .i64 223,.int .i64 128,.int .i64 191,.int .i64 0] w fun e w'=>e = .returned (.bool (txpairW s p 194 223 128 191 0))∧w = w':=txpair_any s w p 194 223 128 191 0 hp (by omega) hs2
 cases hp0:txinW s p 0 127 with
 | true =>
  rw [hp0] at h0
  have H0:=Lib.hid h0
  have HX:=Lib.hid (show txcharW s p = 1 by unfold txcharW;rw [if_pos hp0])
  clear h0 h1 hp0
  go_enter Tryz.func149,Tryz.ntmps149
  go_wp2_with fail
  refine H0.out.mono ?_
  rintro e w' ⟨rfl,rfl⟩
  go_wp2_with fail
  go_ret
  exact ⟨ret_i64 (by rw [HX.out];rfl),rfl⟩
 | false =>
  cases hp1:txpairW s p 194 223 128 191 0 with
  | true =>
   rw [hp0] at h0
   rw [hp1] at h1
   have H0:=Lib.hid h0
   have H1:=Lib.hid h1
   have HX:=Lib.hid (show txcharW s p = 2 by unfold txcharW;rw [hp0,hp1];rfl)
   clear h0 h1 hp0 hp1
   go_enter Tryz.func149,Tryz.ntmps149
   go_wp2_with fail
   refine H0.out.mono ?_
   rintro e w' ⟨rfl,rfl⟩
   go_wp2_with fail
   refine H1.out.mono ?_
   rintro e w' ⟨rfl,rfl⟩
   go_wp2_with fail
   go_ret
   exact ⟨ret_i64 (by rw [HX.out];rfl),rfl⟩
  | false =>
   rw [hp0] at h0
   rw [hp1] at h1
   have HX:=Lib.hid (show txcharW s p = if txpairW s p 224 224 160 191 1 || (txpairW s p 225 236 128 191 1 || (txpairW s p 237 237 128 159 1 || txpairW s p 238 239 128 191 1)) then 3 else if txpairW s p 240 240 144 191 2 || (txpairW s p 241 243 128 191 2 || txpairW s p 244 244 128 143 2) then 4 else 0 by unfold txcharW;rw [hp0,hp1];rfl)
   have H0:=Lib.hid h0
   have H1:=Lib.hid h1
   clear h0 h1 hp0 hp1
   obtain ⟨b1,eb1⟩:∃ x,txpairW s p 224 224 160 191 1 = x:=⟨_,rfl⟩
   obtain ⟨b2,eb2⟩:∃ x,txpairW s p 225 236 128 191 1 = x:=⟨_,rfl⟩
   obtain ⟨b3,eb3⟩:∃ x,txpairW s p 237 237 128 159 1 = x:=⟨_,rfl⟩
   obtain ⟨b4,eb4⟩:∃ x,txpairW s p 238 239 128 191 1 = x:=⟨_,rfl⟩
   obtain ⟨b5,eb5⟩:∃ x,txpairW s p 240 240 144 191 2 = x:=⟨_,rfl⟩
   obtain ⟨b6,eb6⟩:∃ x,txpairW s p 241 243 128 191 2 = x:=⟨_,rfl⟩
   obtain ⟨b7,eb7⟩:∃ x,txpairW s p 244 244 128 143 2 = x:=⟨_,rfl⟩
   have HX2:Hid (txcharW s p = if b1 || (b2 || (b3 || b4)) then 3 else if b5 || (b6 || b7) then 4 else 0):=by rw [HX.out,eb1,eb2,eb3,eb4,eb5,eb6,eb7];exact Lib.hid rfl
   have hA:Calls Tryz.prog 157 #[.string s,.int .i64 p,.int .i64 224,.int .i64 224,.int .i64 160,.int .i64 191,.int .i64 1] w fun e w'=>e = .returned (.bool b1)∧w = w':=by
    have:=txpair_any s w p 224 224 160 191 1 hp (by omega) hs2
    rw [eb1] at this;exact this
   have hB:Calls Tryz.prog 157 #[.string s,.int .i64 p,.int .i64 225,.int .i64 236,.int .i64 128,.int .i64 191,.int .i64 1] w fun e w'=>e = .returned (.bool b2)∧w = w':=by
    have:=txpair_any s w p 225 236 128 191 1 hp (by omega) hs2
    rw [eb2] at this;exact this
   have hC:Calls Tryz.prog 157 #[.string s,.int .i64 p,.int .i64 237,.int .i64 237,.int .i64 128,.int .i64 159,.int .i64 1] w fun e w'=>e = .returned (.bool b3)∧w = w':=by
    have:=txpair_any s w p 237 237 128 159 1 hp (by omega) hs2
    rw [eb3] at this;exact this
   have hD:Calls Tryz.prog 157 #[.string s,.int .i64 p,.int .i64 238,.int .i64 239,.int .i64 128,.int .i64 191,.int .i64 1] w fun e w'=>e = .returned (.bool b4)∧w = w':=by
    have:=txpair_any s w p 238 239 128 191 1 hp (by omega) hs2
    rw [eb4] at this;exact this
   have hE:Calls Tryz.prog 157 #[.string s,.int .i64 p,.int .i64 240,.int .i64 240,.int .i64 144,.int .i64 191,.int .i64 2] w fun e w'=>e = .returned (.bool b5)∧w = w':=by
    have:=txpair_any s w p 240 240 144 191 2 hp (by omega) hs2
    rw [eb5] at this;exact this
   have hF:Calls Tryz.prog 157 #[.string s,.int .i64 p,.int .i64 241,.int .i64 243,.int .i64 128,.int .i64 191,.int .i64 2] w fun e w'=>e = .returned (.bool b6)∧w = w':=by
    have:=txpair_any s w p 241 243 128 191 2 hp (by omega) hs2
    rw [eb6] at this;exact this
   have hG:Calls Tryz.prog 157 #[.string s,.int .i64 p,.int .i64 244,.int .i64 244,.int .i64 128,.int .i64 143,.int .i64 2] w fun e w'=>e = .returned (.bool b7)∧w = w':=by
    have:=txpair_any s w p 244 244 128 143 2 hp (by omega) hs2
    rw [eb7] at this;exact this
   have HAHA:=Lib.hid hA
   have HBHB:=Lib.hid hB
   have HCHC:=Lib.hid hC
   have HDHD:=Lib.hid hD
   have HEHE:=Lib.hid hE
   have HFHF:=Lib.hid hF
   have HGHG:=Lib.hid hG
   clear hA hB hC hD hE hF hG eb1 eb2 eb3 eb4 eb5 eb6 eb7 HX
   go_enter Tryz.func149,Tryz.ntmps149
   go_wp2_with fail
   refine H0.out.mono ?_
   rintro e w' ⟨rfl,rfl⟩
   go_wp2_with fail
   refine H1.out.mono ?_
   rintro e w' ⟨rfl,rfl⟩
   go_wp2_with fail
   refine HAHA.out.mono ?_
   rintro e w' ⟨rfl,rfl⟩
   go_wp2_with fail
   refine HBHB.out.mono ?_
   rintro e w' ⟨rfl,rfl⟩
   go_wp2_with fail
   refine HCHC.out.mono ?_
   rintro e w' ⟨rfl,rfl⟩
   go_wp2_with fail
   refine HDHD.out.mono ?_
   rintro e w' ⟨rfl,rfl⟩
   go_wp2_with fail
   all_goals first
    | (go_ret;exact ⟨ret_i64 (by rw [HX2.out];simp [*]),rfl⟩)
    | skip
   refine HEHE.out.mono ?_
   rintro e w' ⟨rfl,rfl⟩
   go_wp2_with fail
   refine HFHF.out.mono ?_
   rintro e w' ⟨rfl,rfl⟩
   go_wp2_with fail
   refine HGHG.out.mono ?_
   rintro e w' ⟨rfl,rfl⟩
   go_wp2_with fail
   all_goals (go_ret;exact ⟨ret_i64 (by rw [HX2.out];simp [*]),rfl⟩)

/-! the plain law: the chapter's table and the decoder say the same -/
theorem byteS_extract (s:ByteArray) (k j:Nat):((s.extract k s.size).get! j).toNat = byteS s (k+j):=by
 have e:(s.extract k s.size).get! j = (s.data.extract k s.data.size)[j]!:=by
  show (s.extract k s.size).data[j]! = _
  rw [ByteArray.data_extract];rfl
 rw [e]
 unfold byteS
 split
 ·rename_i h
  have h':k+j < s.data.size:=h
  rw [getElem!_pos (s.data.extract k s.data.size) j (by simp;omega)]
  simp
  rfl
 ·rename_i h
  have h':¬ k+j < s.data.size:=h
  rw [getElem!_neg (s.data.extract k s.data.size) j (by simp;omega)]
  rfl
def txcharN (n b0 b1 b2 b3:Nat):Nat :=
 if b0 ≤ 127 then 1
 else if (194 ≤ b0∧b0 ≤ 223)∧1 < n∧128 ≤ b1∧b1 ≤ 191 then 2
 else if ((b0 = 224∧160 ≤ b1∧b1 ≤ 191) ∨ (225 ≤ b0∧b0 ≤ 236∧128 ≤ b1∧b1 ≤ 191) ∨ (b0 = 237∧128 ≤ b1∧b1 ≤ 159) ∨ (238 ≤ b0∧b0 ≤ 239∧128 ≤ b1∧b1 ≤ 191))∧1 < n∧2 < n∧128 ≤ b2∧b2 ≤ 191 then 3
 else if ((b0 = 240∧144 ≤ b1∧b1 ≤ 191) ∨ (241 ≤ b0∧b0 ≤ 243∧128 ≤ b1∧b1 ≤ 191) ∨ (b0 = 244∧128 ≤ b1∧b1 ≤ 143))∧1 < n∧2 < n∧128 ≤ b2∧b2 ≤ 191∧3 < n∧128 ≤ b3∧b3 ≤ 191 then 4 else 0

theorem charW_N (s:ByteArray) (p:Nat) (h:p < s.size):txcharW s p = txcharN (s.size - p) (byteS s p) (byteS s (p+1)) (byteS s (p+2)) (byteS s (p+3)):=by
 have h1:(p+1 < s.size) ↔ (1 < s.size - p):=⟨fun h=>by omega,fun h=>by omega⟩
 have h2:(p+2 < s.size) ↔ (2 < s.size - p):=⟨fun h=>by omega,fun h=>by omega⟩
 have h3:(p+3 < s.size) ↔ (3 < s.size - p):=⟨fun h=>by omega,fun h=>by omega⟩
 have w0:∀ lo hi,txinW s p lo hi = true ↔ (lo ≤ byteS s p∧byteS s p ≤ hi):=fun lo hi=>by simp [txinW,h]
 have w1:∀ lo hi,txinW s (p+1) lo hi = true ↔ (1 < s.size - p∧lo ≤ byteS s (p+1)∧byteS s (p+1) ≤ hi):=fun lo hi=>by simp only [txinW,decide_eq_true_eq,h1]
 have w2:∀ lo hi,txinW s (p+2) lo hi = true ↔ (2 < s.size - p∧lo ≤ byteS s (p+2)∧byteS s (p+2) ≤ hi):=fun lo hi=>by simp only [txinW,decide_eq_true_eq,h2]
 have w3:∀ lo hi,txinW s (p+3) lo hi = true ↔ (3 < s.size - p∧lo ≤ byteS s (p+3)∧byteS s (p+3) ≤ hi):=fun lo hi=>by simp only [txinW,decide_eq_true_eq,h3]
 have p0:∀ a b c d,txpairW s p a b c d 0 = true ↔ ((a ≤ byteS s p∧byteS s p ≤ b)∧(1 < s.size - p∧c ≤ byteS s (p+1)∧byteS s (p+1) ≤ d)):=fun a b c d=>by
  simp only [txpairW,txtailW,Bool.and_true,Bool.and_eq_true,w0,w1]
 have p1:∀ a b c d,txpairW s p a b c d 1 = true ↔ ((a ≤ byteS s p∧byteS s p ≤ b)∧(1 < s.size - p∧c ≤ byteS s (p+1)∧byteS s (p+1) ≤ d)∧(2 < s.size - p∧128 ≤ byteS s (p+2)∧byteS s (p+2) ≤ 191)):=fun a b c d=>by
  simp only [txpairW,txtailW,Bool.and_true,Bool.and_eq_true,w0,w1,w2]
 have p2:∀ a b c d,txpairW s p a b c d 2 = true ↔ ((a ≤ byteS s p∧byteS s p ≤ b)∧(1 < s.size - p∧c ≤ byteS s (p+1)∧byteS s (p+1) ≤ d)∧(2 < s.size - p∧128 ≤ byteS s (p+2)∧byteS s (p+2) ≤ 191)∧(3 < s.size - p∧128 ≤ byteS s (p+3)∧byteS s (p+3) ≤ 191)):=fun a b c d=>by
  simp only [txpairW,txtailW,Bool.and_true,Bool.and_eq_true,w0,w1,w2,Nat.add_assoc,Nat.reduceAdd,w3]
 unfold txcharW txcharN
 simp only [Bool.or_eq_true,w0,p0,p1,p2,Nat.zero_le,true_and]
 clear w0 w1 w2 w3 p0 p1 p2 h1 h2 h3
 generalize byteS s p = b0
 generalize byteS s (p+1) = b1
 generalize byteS s (p+2) = b2
 generalize byteS s (p+3) = b3
 generalize s.size - p = n
 congr 2
 congr 1
 ·exact propext ⟨fun h=>by omega,fun h=>by omega⟩
 ·congr 1
  exact propext ⟨fun h=>by omega,fun h=>by omega⟩

set_option maxHeartbeats 4000000 in
theorem charN_decode (n b0 b1 b2 b3:Nat) (hn:1 ≤ n) (h0:b0 < 256) (h1:b1 < 256) (h2:b2 < 256) (h3:b3 < 256) :
  txcharN n b0 b1 b2 b3 = if (Lib.decodeN n b0 b1 b2 b3).1 = 65533∧(Lib.decodeN n b0 b1 b2 b3).2 = 1 then 0 else (Lib.decodeN n b0 b1 b2 b3).2:=by
 unfold txcharN Lib.decodeN
 repeat' split
 all_goals first|rfl|(exfalso;omega)|(simp only at *;omega)

theorem char_decode (s:ByteArray) (p:Nat) (h:p < s.size) :
  txcharW s p = if (Lib.decodeGo (s.extract p s.size)).1 = 65533∧(Lib.decodeGo (s.extract p s.size)).2 = 1 then 0 else (Lib.decodeGo (s.extract p s.size)).2:=by
 have hsz:(s.extract p s.size).size = s.size - p:=by simp
 have hdg:Lib.decodeGo (s.extract p s.size) = Lib.decodeN (s.size - p) (byteS s p) (byteS s (p+1)) (byteS s (p+2)) (byteS s (p+3)):=by
  unfold Lib.decodeGo
  rw [if_neg (by omega),Lib.decode_at,hsz,byteS_extract,byteS_extract,byteS_extract,byteS_extract]
  simp only [Nat.sub_zero,Nat.zero_add,Nat.add_zero]
 rw [charW_N s p h,hdg]
 exact charN_decode _ _ _ _ _ (by omega) (byteS_lt _ _) (byteS_lt _ _) (byteS_lt _ _) (byteS_lt _ _)

set_option maxHeartbeats 1000000 in
theorem refUtf8_any (s:ByteArray) (w:World) (hs:s.size+16 ≤ 9223372036854775807) :
  Calls Tryz.prog 129 #[.string s] w fun e w'=>e = .returned (.int .i64 (utf8S s))∧w = w':=by
 go_enter Tryz.func129,Tryz.ntmps129
 go_wp2
 go_loop [3] (fun i=>∃ k f:Nat,k ≤ s.size∧s.size - k ≤ f∧i = .int .i64 k∧Hid (utf8S s = utf8F s f k)) (fun i=>s.size - (intOf i).toNat)
 case atStart=>exact ⟨0,s.size,by omega,by omega,rfl,Lib.hid rfl⟩
 case round =>
  obtain ⟨k,f,hk,hf,rfl,H⟩:=hrel
  by_cases hlt:k < s.size
  ·obtain ⟨f,rfl⟩:∃ f',f = f'+1:=⟨f - 1,by omega⟩
   obtain ⟨hd1,hd2,hd3⟩:=decodeGo_bd s k hlt
   have hs1:=H.out
   rw [utf8F,if_pos hlt] at hs1
   have hcd:=char_decode s k hlt
   have hc:=txchar_any s w k (by omega) hs
   rw [hcd] at hc
   clear hcd hd3
   obtain ⟨r,hr⟩:∃ r,(Lib.decodeGo (s.extract k s.size)).1 = r:=⟨_,rfl⟩
   obtain ⟨m,hm⟩:∃ m,(Lib.decodeGo (s.extract k s.size)).2 = m:=⟨_,rfl⟩
   rw [hr,hm] at hs1 hc
   rw [hm] at hd1 hd2
   clear hr hm H
   by_cases c1:r = 65533∧m = 1
   ·rw [if_pos c1] at hs1 hc
    have HE:=Lib.hid hs1
    have HC:=Lib.hid hc
    clear hs1 hc
    go_wp2_with fail
    refine HC.out.mono ?_
    rintro e w' ⟨rfl,rfl⟩
    go_wp2_with fail
    go_ret
    exact ⟨ret_i64 HE.out.symm,rfl⟩
   ·rw [if_neg c1] at hs1 hc
    have HE:=Lib.hid hs1
    have HC:=Lib.hid hc
    clear hs1 hc
    go_wp2_with fail
    refine HC.out.mono ?_
    rintro e w' ⟨rfl,rfl⟩
    go_wp2_with fail
    go_round
    case rel=>exact ⟨k+m,f,by omega,by omega,by go_num,HE⟩
    case measure=>simp [intOf];omega
  ·have HE:=Lib.hid (show utf8S s = -1 by rw [H.out];cases f <;> simp [utf8F,hlt])
   go_wp2
   go_ret
   exact ⟨ret_i64 HE.out.symm,rfl⟩
end Go.Proofs.YtnnnfhobbnjmfaaGreatDoor
