/-
  Lemmas on the codec. Conditions: as each says.
-/
import Derived.Test.YtnnnfhobbnjmfaaGreatDoorWn22
import Derived.Test.YtnnnfhobbnjmfaaGreatDoorWn01
import Derived.Laws.BytesArg
import Derived.Test.YtnnnfhobbnjmfaaGreatDoorWn04
namespace Go.Proofs.YtnnnfhobbnjmfaaGreatDoor
open Go.RowKit Go.Proofs.Tryz
set_option linter.all false
set_option maxHeartbeats 40000000
set_option maxRecDepth 20000

theorem sg_1 (n:Nat) (h:n < 256) (k:Int) (hk:k = 6 ∨ k = 7 ∨ k = 8 ∨ k = 9):IntKind.u64.wrap (wrap64 (IntKind.u64.wrap (((n:Nat):Int) * 72057594037927936)) / 72057594037927936) = sgnW k 1 n:=by
 have hp:((256 ^ 1:Nat)) = 256:=by decide
 unfold sgnW
 rw [hp]
 unfold wrap64
 simp only [IntKind.wrap,IntKind.bits,IntKind.signed,Bool.false_and,Bool.false_eq_true,if_false]
 by_cases h2:128 <= n
 ·rw [if_pos ⟨hk,by omega,by omega⟩]
  omega
 rw [if_neg (by rintro ⟨_,_,h3⟩;omega)]
 omega
theorem sg_2 (n:Nat) (h:n < 65536) (k:Int) (hk:k = 6 ∨ k = 7 ∨ k = 8 ∨ k = 9):IntKind.u64.wrap (wrap64 (IntKind.u64.wrap (((n:Nat):Int) * 281474976710656)) / 281474976710656) = sgnW k 2 n:=by
 have hp:((256 ^ 2:Nat)) = 65536:=by decide
 unfold sgnW
 rw [hp]
 unfold wrap64
 simp only [IntKind.wrap,IntKind.bits,IntKind.signed,Bool.false_and,Bool.false_eq_true,if_false]
 by_cases h2:32768 <= n
 ·rw [if_pos ⟨hk,by omega,by omega⟩]
  omega
 rw [if_neg (by rintro ⟨_,_,h3⟩;omega)]
 omega
theorem sg_4 (n:Nat) (h:n < 4294967296) (k:Int) (hk:k = 6 ∨ k = 7 ∨ k = 8 ∨ k = 9):IntKind.u64.wrap (wrap64 (IntKind.u64.wrap (((n:Nat):Int) * 4294967296)) / 4294967296) = sgnW k 4 n:=by
 have hp:((256 ^ 4:Nat)) = 4294967296:=by decide
 unfold sgnW
 rw [hp]
 unfold wrap64
 simp only [IntKind.wrap,IntKind.bits,IntKind.signed,Bool.false_and,Bool.false_eq_true,if_false]
 by_cases h2:2147483648 <= n
 ·rw [if_pos ⟨hk,by omega,by omega⟩]
  omega
 rw [if_neg (by rintro ⟨_,_,h3⟩;omega)]
 omega
theorem sg_8 (n:Nat) (h:n < 18446744073709551616) (k:Int):IntKind.u64.wrap (wrap64 (IntKind.u64.wrap ((n:Nat):Int))) = sgnW k 8 n:=by
 unfold sgnW
 rw [if_neg (by rintro ⟨_,h3,_⟩;omega)]
 unfold wrap64
 simp only [IntKind.wrap,IntKind.bits,IntKind.signed,Bool.false_and,Bool.false_eq_true,if_false]
 omega
theorem sgn_other {k:Int} (w n:Nat) (h:¬ (k = 6 ∨ k = 7 ∨ k = 8 ∨ k = 9)):sgnW k w n = n:=by
 unfold sgnW
 rw [if_neg (fun q=>h q.1)]
theorem num_u64 {B:List UInt8} {at_ wd:Nat} (h:wd <= 8):IsU64 (nAt B at_ wd):=by
 have:=nAt_lt (B:=B) (at_:=at_) (wd:=wd)
 have h2:256 ^ wd <= 256 ^ 8:=Nat.pow_le_pow_right (by omega) h
 have h3:256 ^ 8 = 18446744073709551616:=by decide
 exact ⟨by omega,by omega⟩
theorem sgn_u64 {k:Int} {wd n:Nat} (h:wd <= 8) (hn:n < 256 ^ wd):IsU64 (sgnW k wd n):=by
 have h2:256 ^ wd <= 256 ^ 8:=Nat.pow_le_pow_right (by omega) h
 have h3:256 ^ 8 = 18446744073709551616:=by decide
 unfold sgnW
 split
 ·exact ⟨by omega,by omega⟩
 ·exact ⟨by omega,by omega⟩
theorem codes_fixed (c:Nat) (h5:5 <= c / 16) (h8:c / 16 <= 8) (hk:0 <= kindC c):c = 80 ∨ c = 81 ∨ c = 82 ∨ c = 83 ∨ c = 84 ∨ c = 85 ∨ c = 86 ∨ c = 96 ∨ c = 97 ∨ c = 112 ∨ c = 113 ∨ c = 114 ∨ c = 115 ∨ c = 116 ∨ c = 128 ∨ c = 129 ∨ c = 130 ∨ c = 131 ∨ c = 132:=by
 have hc:c < 144:=by omega
 have hc2:80 <= c:=by omega
 obtain ⟨d,hd,rfl⟩:∃ d,d < 64∧c = 80+d:=⟨c - 80,by omega,by omega⟩
 have key:∀ d:Fin 64,0 <= kindC (80+d.1) -> 80+d.1 = 80 ∨ 80+d.1 = 81 ∨ 80+d.1 = 82 ∨ 80+d.1 = 83 ∨ 80+d.1 = 84 ∨ 80+d.1 = 85 ∨ 80+d.1 = 86 ∨ 80+d.1 = 96 ∨ 80+d.1 = 97 ∨ 80+d.1 = 112 ∨ 80+d.1 = 113 ∨ 80+d.1 = 114 ∨ 80+d.1 = 115 ∨ 80+d.1 = 116 ∨ 80+d.1 = 128 ∨ 80+d.1 = 129 ∨ 80+d.1 = 130 ∨ 80+d.1 = 131 ∨ 80+d.1 = 132:=by decide
 exact key ⟨d,hd⟩ hk
theorem kindC_le (c:Nat):kindC c <= 24:=by
 unfold kindC
 repeat' split
 all_goals omega
theorem RdTo.of_ok {w w':World} {r:Nat} {p:Option Addr} {n cp at_ en:Nat} {sz own:Int} {K N:Int} {k:Nat} (hK:IsI64 K) (hN:IsU64 N) (h:RdMv w w' r #[.slice p n cp,.int .i64 (at_+k:Nat),.int .i64 (en:Nat),.int .i64 sz]) :
  RdTo w r p n cp at_ en sz own (.ok (.mk K N ⟨#[]⟩ [] 0,k)) (.returned (.agg #[.int .i64 K,.int .u64 N,.string ⟨#[]⟩,.slice none 0 0,.int .i64 0])) w' :=
 ⟨_,_,rfl,VO.nil w' _ ⟨hK,hN,Nat.zero_le _,⟨by show (-9223372036854775808:Int) <= 0;omega,by show (0:Int) <= 9223372036854775807;omega⟩⟩ rfl,h⟩
theorem fixed_any (c:Nat) (h5:5 <= c / 16) (h8:c / 16 <= 8) (hk:0 <= kindC c) (w:World) (r:Nat) (p:Option Addr) (n cp at_ en:Nat) (sz own:Int) (B:List UInt8) (h:RdIn w r p n cp at_ en sz B) :
  Calls Tryz.prog 84 #[.pointer (some ⟨r,0,none⟩),.int .u8 (c:Nat)] w fun e w'=>RdTo w r p n cp at_ en sz own (fixedR c (sOf B at_ en)) e w':=by
 have hl:(sOf B at_ en).length = en - at_:=sOf_len (by rw [h.len];exact h.hen)
 have hae:=h.ha
 have hclt:c < 256:=by omega
 by_cases hs:en < at_+widC c
 ·have e1:fixedR c (sOf B at_ en) = .error .short:=by unfold fixedR;rw [if_pos (by omega)]
  rw [e1]
  exact fixed_short c _ _ hclt rfl rfl w r p n cp at_ en sz own B h hs
 have htk:beVal ((sOf B at_ en).take (widC c)) = nAt B at_ (widC c):=by unfold nAt;rw [sOf_take (by omega)]
 have hnl:¬ (sOf B at_ en).length < widC c:=by omega
 unfold fixedR
 rw [htk,if_neg hnl]
 clear htk hnl
 have hs2:at_+widC c <= en:=by omega
 clear hs hl hae
 have hw:1 <= widC c∧widC c <= 8:=by
  have:c / 16 = 5 ∨ c / 16 = 6 ∨ c / 16 = 7 ∨ c / 16 = 8:=by omega
  unfold widC
  rcases this with e|e|e|e <;> rw [e] <;> decide
 by_cases hp:¬ (kindC c = 6 ∨ kindC c = 7 ∨ kindC c = 8 ∨ kindC c = 9 ∨ kindC c = 1 ∨ kindC c = 15)
 ·have hk24:=kindC_le c
  rw [if_neg (fun q=>hp (by rw [q.1];decide)),if_neg (fun q=>hp (by rw [q.1];decide)),sgn_other _ _ (by omega)]
  exact (fixed_plain c _ _ hclt rfl rfl hw.1 hw.2 w r p n cp at_ en sz own B h hs2 (zH ⟨by simp;omega,by simp;omega,by simp;omega,by simp;omega,by simp;omega,by simp;omega⟩)).mono (fun e w' q=>by obtain ⟨rfl,q2⟩:=q;exact RdTo.of_ok ⟨by omega,by omega⟩ (num_u64 hw.2) q2)
 have hm:c = 81 ∨ c = 84 ∨ c = 85 ∨ c = 86 ∨ c = 97 ∨ c = 113 ∨ c = 115 ∨ c = 129:=by
  rcases codes_fixed c h5 h8 hk with rfl|rfl|rfl|rfl|rfl|rfl|rfl|rfl|rfl|rfl|rfl|rfl|rfl|rfl|rfl|rfl|rfl|rfl|rfl <;> first|omega|exact absurd (by decide) hp
 clear hw hp
 rcases hm with rfl|rfl|rfl|rfl|rfl|rfl|rfl|rfl
 ·have hw0:widC 81 = 1:=rfl
  have hk0:kindC 81 = 6:=rfl
  rw [hw0,hk0]
  rw [hw0] at hs2
  have hlt:=nAt_lt (B:=B) (at_:=at_) (wd:=1)
  rw [show (256:Nat) ^ 1 = 256 by decide] at hlt
  rw [if_neg (by omega),if_neg (by omega)]
  exact (fixed_6_1 81 _ (by decide) rfl rfl (by omega) (by omega) w r p n cp at_ en sz own B h hs2 (zH (sg_1 _ hlt 6 (by decide)))).mono (fun e w' q=>by obtain ⟨rfl,q2⟩:=q;exact RdTo.of_ok ⟨by omega,by omega⟩ (sgn_u64 (by omega) nAt_lt) q2)
 ·have hw0:widC 84 = 1:=rfl
  have hk0:kindC 84 = 8:=rfl
  rw [hw0,hk0]
  rw [hw0] at hs2
  have hlt:=nAt_lt (B:=B) (at_:=at_) (wd:=1)
  rw [show (256:Nat) ^ 1 = 256 by decide] at hlt
  rw [if_neg (by omega),if_neg (by omega)]
  exact (fixed_8_1 84 _ (by decide) rfl rfl (by omega) (by omega) w r p n cp at_ en sz own B h hs2 (zH (sg_1 _ hlt 8 (by decide)))).mono (fun e w' q=>by obtain ⟨rfl,q2⟩:=q;exact RdTo.of_ok ⟨by omega,by omega⟩ (sgn_u64 (by omega) nAt_lt) q2)
 ·have hw0:widC 85 = 1:=rfl
  have hk0:kindC 85 = 9:=rfl
  rw [hw0,hk0]
  rw [hw0] at hs2
  have hlt:=nAt_lt (B:=B) (at_:=at_) (wd:=1)
  rw [show (256:Nat) ^ 1 = 256 by decide] at hlt
  rw [if_neg (by omega),if_neg (by omega)]
  exact (fixed_9_1 85 _ (by decide) rfl rfl (by omega) (by omega) w r p n cp at_ en sz own B h hs2 (zH (sg_1 _ hlt 9 (by decide)))).mono (fun e w' q=>by obtain ⟨rfl,q2⟩:=q;exact RdTo.of_ok ⟨by omega,by omega⟩ (sgn_u64 (by omega) nAt_lt) q2)
 ·have hw0:widC 86 = 1:=rfl
  have hk0:kindC 86 = 1:=rfl
  rw [hw0,hk0]
  rw [hw0] at hs2
  have hlt:=nAt_lt (B:=B) (at_:=at_) (wd:=1)
  rw [show (256:Nat) ^ 1 = 256 by decide] at hlt
  by_cases hb:1 < nAt B at_ 1
  ·rw [if_pos ⟨rfl,hb⟩]
   exact fixed_boolx 86 1 (by decide) rfl rfl (by omega) (by omega) w r p n cp at_ en sz own B h hs2 (zH (by simp;omega))
  ·rw [if_neg (fun q=>hb q.2),if_neg (by omega),sgn_other _ _ (by omega)]
   exact (fixed_bool 86 1 (by decide) rfl rfl (by omega) (by omega) w r p n cp at_ en sz own B h hs2 (zH (by simp;omega))).mono (fun e w' q=>by obtain ⟨rfl,q2⟩:=q;exact RdTo.of_ok ⟨by omega,by omega⟩ (num_u64 (by omega)) q2)
 ·have hw0:widC 97 = 2:=rfl
  have hk0:kindC 97 = 7:=rfl
  rw [hw0,hk0]
  rw [hw0] at hs2
  have hlt:=nAt_lt (B:=B) (at_:=at_) (wd:=2)
  rw [show (256:Nat) ^ 2 = 65536 by decide] at hlt
  rw [if_neg (by omega),if_neg (by omega)]
  exact (fixed_7_2 97 _ (by decide) rfl rfl (by omega) (by omega) w r p n cp at_ en sz own B h hs2 (zH (sg_2 _ hlt 7 (by decide)))).mono (fun e w' q=>by obtain ⟨rfl,q2⟩:=q;exact RdTo.of_ok ⟨by omega,by omega⟩ (sgn_u64 (by omega) nAt_lt) q2)
 ·have hw0:widC 113 = 4:=rfl
  have hk0:kindC 113 = 8:=rfl
  rw [hw0,hk0]
  rw [hw0] at hs2
  have hlt:=nAt_lt (B:=B) (at_:=at_) (wd:=4)
  rw [show (256:Nat) ^ 4 = 4294967296 by decide] at hlt
  rw [if_neg (by omega),if_neg (by omega)]
  exact (fixed_8_4 113 _ (by decide) rfl rfl (by omega) (by omega) w r p n cp at_ en sz own B h hs2 (zH (sg_4 _ hlt 8 (by decide)))).mono (fun e w' q=>by obtain ⟨rfl,q2⟩:=q;exact RdTo.of_ok ⟨by omega,by omega⟩ (sgn_u64 (by omega) nAt_lt) q2)
 ·have hw0:widC 115 = 4:=rfl
  have hk0:kindC 115 = 15:=rfl
  rw [hw0,hk0]
  rw [hw0] at hs2
  have hlt:=nAt_lt (B:=B) (at_:=at_) (wd:=4)
  rw [show (256:Nat) ^ 4 = 4294967296 by decide] at hlt
  rw [if_neg (by omega)]
  by_cases hb:isCh (nAt B at_ 4) = false
  ·rw [if_pos ⟨rfl,hb⟩]
   have hb2:¬ (nAt B at_ 4 <= 1114111∧(nAt B at_ 4 < 55296 ∨ 57343 < nAt B at_ 4)):=by simp [isCh] at hb;omega
   by_cases g:1114111 < nAt B at_ 4
   ·exact fixed_charX 115 4 (by decide) rfl rfl (by omega) (by omega) w r p n cp at_ en sz own B h hs2 (zH (by simp;omega))
   ·exact fixed_charY 115 4 (by decide) rfl rfl (by omega) (by omega) w r p n cp at_ en sz own B h hs2 (zH ⟨by simp;omega,by simp;omega,by simp;omega⟩)
  ·rw [if_neg (fun q=>hb q.2),sgn_other _ _ (by omega)]
   have hb2:nAt B at_ 4 <= 1114111∧(nAt B at_ 4 < 55296 ∨ 57343 < nAt B at_ 4):=by simp [isCh] at hb;omega
   by_cases g:nAt B at_ 4 < 55296
   ·exact (fixed_charA 115 4 (by decide) rfl rfl (by omega) (by omega) w r p n cp at_ en sz own B h hs2 (zH ⟨by simp;omega,by simp;omega⟩)).mono (fun e w' q=>by obtain ⟨rfl,q2⟩:=q;exact RdTo.of_ok ⟨by omega,by omega⟩ (num_u64 (by omega)) q2)
   ·exact (fixed_charB 115 4 (by decide) rfl rfl (by omega) (by omega) w r p n cp at_ en sz own B h hs2 (zH ⟨by simp;omega,by simp;omega,by simp;omega⟩)).mono (fun e w' q=>by obtain ⟨rfl,q2⟩:=q;exact RdTo.of_ok ⟨by omega,by omega⟩ (num_u64 (by omega)) q2)
 have hw0:widC 129 = 8:=rfl
 have hk0:kindC 129 = 9:=rfl
 rw [hw0,hk0]
 rw [hw0] at hs2
 have hlt:=nAt_lt (B:=B) (at_:=at_) (wd:=8)
 rw [show (256:Nat) ^ 8 = 18446744073709551616 by decide] at hlt
 rw [if_neg (by omega),if_neg (by omega)]
 exact (fixed_9_8 129 _ (by decide) rfl rfl (by omega) (by omega) w r p n cp at_ en sz own B h hs2 (zH (sg_8 _ hlt 9))).mono (fun e w' q=>by obtain ⟨rfl,q2⟩:=q;exact RdTo.of_ok ⟨by omega,by omega⟩ (sgn_u64 (by omega) nAt_lt) q2)

theorem run_string_bytes {P:Program} (w:World) (src dst e:TypeId) (hs:P.underlying src = some (.slice e)) (he:P.underlying e = some (.int .u8)) (hd:P.underlying dst = some .string) (a:Option Addr) (n c:Nat) (l:List UInt8) (h:BytesIn w a n c l) :
  (convert src dst (.slice a n c)).run P w = .ok (.string ⟨l.toArray⟩) w:=by
 by_cases h0:n = 0
 ·subst h0
  have hl:l = []:=List.eq_nil_of_length_eq_zero h.len
  subst hl
  cases a with
  | none=>exact run_convert_bytes_nil w src e hs he 0 c dst hd
  | some a =>
   obtain ⟨b,o,e⟩:=a
   rw [run_convert_bytes_string w src dst _ _ 0 c hs he hd]
   simp [Conv.bytesToString,loadCells,loadCellsFrom]
   rfl
 ·obtain ⟨b,o,rfl,_,hc⟩:=h.at_ (by have:=h.le;omega)
  have:=run_convert_bytes_arg (P:=P) w src e hs he b o n c (l.map fun x=>(x.toNat:Int)) (by rw [List.length_map,h.len]) (fun i hi=>by
   rw [hc i hi]
   have hil:i < l.length:=by rw [h.len];exact hi
   simp [List.getD_eq_getElem?_getD,hil]) dst hd
  rw [this]
  have e2:(l.map fun x=>(x.toNat:Int)).map (fun n=>UInt8.ofNat n.toNat) = l:=by
   rw [List.map_map]
   conv=>rhs;rw [← List.map_id l]
   exact List.map_congr_left fun x _=>by simp
  unfold strOfNums
  rw [e2]

attribute [local go_sem] Oper.semAt_some

theorem wp_store_rowN {P:Program} {o:Oper} {a:Act} {w:World} {K:Act -> World -> Prop} {Q:Exit -> Act -> World -> Prop} (ty:TypeId) (x y:Operand) (ho:o.op = .store ty x y) (hd:o.dst = none)
  (g:Nat) (cells:Array Value) (hx:a.eval x = .pointer (some ⟨g,0,none⟩)) (hy:a.eval y = .agg cells)
  (t:TypeId) (old:Array Value) (hg:w.heap[g]? = some (.cells old t (0,0))) (hi:(P.info? ty).map (·.size) = some cells.size)
  (hold:old.size = cells.size) (h1:cells.all (·.oneCell') = true)
  (h:K a (w.setRow g cells)):o.wp P a w K Q:=wp_store_row ty x y ho g cells hx hy t old hg hi hold h1 (by rw [hd];exact h)
theorem asciiF_bd (s:ByteArray):∀ f k,-1 <= asciiF s f k∧asciiF s f k <= s.size
 | 0,_=>⟨by rw [asciiF];omega,by rw [asciiF];omega⟩
 | f+1,k=>by
  rw [asciiF]
  split
  ·rename_i h
   have:k < s.size:=by
    unfold byteS at h
    split at h
    ·assumption
    ·omega
   exact ⟨by omega,by omega⟩
  ·exact asciiF_bd s f (k+1)
theorem utf8F_bd (s:ByteArray):∀ f k,-1 <= utf8F s f k∧utf8F s f k <= s.size
 | 0,_=>⟨by rw [utf8F];omega,by rw [utf8F];omega⟩
 | f+1,k=>by
  rw [utf8F]
  split
  ·split
   ·exact ⟨by omega,by omega⟩
   ·exact utf8F_bd s f _
  ·exact ⟨by omega,by omega⟩
theorem BytesIn.part {w:World} {p:Option Addr} {n c:Nat} {l:List UInt8} (h:BytesIn w p n c l) (A k:Nat) (hk:A+k <= n):BytesIn w (if c = A then p else p.map (fun x=>x.add A)) k (c - A) ((l.drop A).take k):=by
 have h2:=h.le
 by_cases e:c = A
 ·rw [if_pos e]
  obtain rfl:k = 0:=by omega
  rw [List.take_zero,e,Nat.sub_self]
  exact BytesIn.empty p
 ·rw [if_neg e]
  obtain ⟨b,o,rfl,_,_⟩:=h.at_ (by omega)
  have:=h.sub A k hk
  have e2:(⟨b,o,none⟩:Addr).add A = ⟨b,o+A,none⟩:=by unfold Addr.add;split <;> simp_all
  rw [Option.map_some,e2]
  exact this
theorem text_short1 (K:Int) (wd:Nat) (w:World) (r:Nat) (p:Option Addr) (n cp at_ en:Nat) (sz own:Int) (B:List UInt8) (h:RdIn w r p n cp at_ en sz B) (hs:en < at_+wd) :
  Calls prog 81 #[.pointer (some ⟨r,0,none⟩),.int .i64 K,.int .i64 (wd:Nat)] w fun e w'=>e = faultE (shP n sz) (shC sz)∧KeepF (fun g=>g = r) w w':=by
 have HN:=zH (show ∀ W,RdIn W r p n cp at_ en sz B -> Calls prog 106 #[.pointer (some ⟨r,0,none⟩),.int .i64 (wd:Nat)] W fun e w'=>e = faultE (shP n sz) (shC sz)∧Below W.heap.size W w' from fun W hW=>number_bad W r p n cp at_ en sz hW.row wd hW.ha hs hW.hen hW.hn)
 clear hs
 go_enter func81,ntmps81
 go_upto_region 1 with fail
 have hb0:Below w.heap.size w (w.alloc (.cells zR 25)):=((Below.refl _ _).alloc (Nat.le_refl _) _)
 have oy:=zN w (.cells zR 25)
 generalize (w.alloc (.cells zR 25)) = w0 at *
 obtain ⟨y,hy⟩:∃ y,w.heap.size = y:=⟨_,rfl⟩
 rw [hy] at oy ⊢
 have HR0:=zH (h.blw hb0)
 have HB0:=zH (And.intro hb0 (And.intro hy oy))
 have hlt:=zH h.lt
 clear hb0 hy oy h
 go_wp2_with fail
 refine (HN.out _ HR0.out).mono ?_
 rintro e w3 ⟨rfl,hb3⟩
 exact ⟨rfl,rfl,(KeepF.of_below HB0.out.1).trans (KeepF.of_below hb3)⟩
theorem text_short2 (K:Int) (wd:Nat) (w:World) (r:Nat) (p:Option Addr) (n cp at_ en:Nat) (sz own:Int) (B:List UInt8) (h:RdIn w r p n cp at_ en sz B) (h1:1 <= wd) (h4:wd <= 4) (N a1:Nat) (hN:nAt B at_ wd = N) (ha1:at_+wd = a1) (hs1:a1 <= en) (hs:en < a1+N) :
  Calls prog 81 #[.pointer (some ⟨r,0,none⟩),.int .i64 K,.int .i64 (wd:Nat)] w fun e w'=>e = faultE (shP n sz) (shC sz)∧KeepF (fun g=>g = r) w w':=by
 have HN:=zH (show ∀ W,RdIn W r p n cp at_ en sz B -> Calls prog 106 #[.pointer (some ⟨r,0,none⟩),.int .i64 (wd:Nat)] W fun e w'=>e = .returned (.int .u64 N)∧RdMv W w' r #[.slice p n cp,.int .i64 (a1:Nat),.int .i64 (en:Nat),.int .i64 sz] from fun W hW=>(number_ok W r p n cp at_ en sz hW.row B hW.src.bytes wd h1 (by omega) hW.ha (by omega) hW.hen hW.hn).mono (fun e w' q=>⟨by rw [← hN];exact q.1,q.2.eq (by omega)⟩))
 have hwn:wrap64 ((N:Nat):Int) = (N:Nat):=by
  have:=nAt_lt (B:=B) (at_:=at_) (wd:=wd)
  have h2:256 ^ wd <= 256 ^ 4:=Nat.pow_le_pow_right (by omega) h4
  have h3:256 ^ 4 = 4294967296:=by decide
  unfold wrap64
  omega
 have HNE:=zH (show ∀ W,RdIn W r p n cp a1 en sz B -> Calls prog 56 #[.pointer (some ⟨r,0,none⟩),.int .i64 (N:Nat)] W fun e w'=>e = faultE (shP n sz) (shC sz)∧Below W.heap.size W w' from fun W hW=>need_bad W r p n cp a1 en sz hW.row N hW.ha hs (by have:=hW.hen;have:=hW.hn;omega) hW.hn)
 have hs1':=zH hs1
 clear hs hs1 hN ha1 h1 h4
 go_enter func81,ntmps81
 go_upto_region 1 with fail
 have hb0:Below w.heap.size w (w.alloc (.cells zR 25)):=((Below.refl _ _).alloc (Nat.le_refl _) _)
 have oy:=zN w (.cells zR 25)
 generalize (w.alloc (.cells zR 25)) = w0 at *
 obtain ⟨y,hy⟩:∃ y,w.heap.size = y:=⟨_,rfl⟩
 rw [hy] at oy ⊢
 have HR0:=zH (h.blw hb0)
 have HB0:=zH (And.intro hb0 (And.intro hy oy))
 have hlt:=zH h.lt
 clear hb0 hy oy h
 go_wp2_with fail
 refine (HN.out _ HR0.out).mono ?_
 rintro e w3 ⟨rfl,hmv⟩
 have HMV:=zH hmv
 have HR3:=zH (HR0.out.mv hmv hs1'.out)
 clear hmv
 go_wp2_with fail
 refine (HNE.out _ HR3.out).mono ?_
 rintro e w4 ⟨rfl,hb4⟩
 exact ⟨rfl,rfl,((KeepF.of_below HB0.out.1).trans HMV.out.keep).trans (KeepF.of_below hb4)⟩
theorem mrg_text_18 (wd:Nat) (w:World) (r:Nat) (p:Option Addr) (n cp at_ en:Nat) (sz own:Int) (B:List UInt8) (h:RdIn w r p n cp at_ en sz B) (h1:1 <= wd) (h4:wd <= 4) (N a1:Nat) (hN:nAt B at_ wd = N) (ha1:at_+wd = a1) (hs:a1+N <= en):(Calls prog 81 #[.pointer (some ⟨r,0,none⟩),.int .i64 18,.int .i64 (wd:Nat)] w fun e w'=>e = .returned (.agg #[.int .i64 18,.int .u64 0,.string ⟨((B.drop a1).take N).toArray⟩,.slice none 0 0,.int .i64 0])∧RdMv w w' r #[.slice p n cp,.int .i64 ((a1:Int)+(N:Nat)),.int .i64 (en:Nat),.int .i64 sz]) ∧
  (∀ (bad:Int) (hbad:utf8S ⟨((B.drop a1).take N).toArray⟩ = bad) (hbb:decide ((0:Int) <= bad) = false),Calls prog 81 #[.pointer (some ⟨r,0,none⟩),.int .i64 19,.int .i64 (wd:Nat)] w fun e w'=>e = .returned (.agg #[.int .i64 19,.int .u64 0,.string ⟨((B.drop a1).take N).toArray⟩,.slice none 0 0,.int .i64 0])∧RdMv w w' r #[.slice p n cp,.int .i64 ((a1:Int)+(N:Nat)),.int .i64 (en:Nat),.int .i64 sz]) ∧
  (∀ (bad:Int) (hbad:utf8S ⟨((B.drop a1).take N).toArray⟩ = bad) (hbb:decide ((0:Int) <= bad) = true) (hbn:bad <= N),Calls prog 81 #[.pointer (some ⟨r,0,none⟩),.int .i64 19,.int .i64 (wd:Nat)] w fun e w'=>e = faultE ((a1:Int)+bad) 33∧KeepF (fun g=>g = r) w w') ∧
  (∀ (bad:Int) (hbad:asciiS ⟨((B.drop a1).take N).toArray⟩ = bad) (hbb:decide ((0:Int) <= bad) = false),Calls prog 81 #[.pointer (some ⟨r,0,none⟩),.int .i64 20,.int .i64 (wd:Nat)] w fun e w'=>e = .returned (.agg #[.int .i64 20,.int .u64 0,.string ⟨((B.drop a1).take N).toArray⟩,.slice none 0 0,.int .i64 0])∧RdMv w w' r #[.slice p n cp,.int .i64 ((a1:Int)+(N:Nat)),.int .i64 (en:Nat),.int .i64 sz]) ∧
  (∀ (bad:Int) (hbad:asciiS ⟨((B.drop a1).take N).toArray⟩ = bad) (hbb:decide ((0:Int) <= bad) = true) (hbn:bad <= N),Calls prog 81 #[.pointer (some ⟨r,0,none⟩),.int .i64 20,.int .i64 (wd:Nat)] w fun e w'=>e = faultE ((a1:Int)+bad) 33∧KeepF (fun g=>g = r) w w'):=by
 refine ⟨?_,?_,?_,?_,?_⟩
 rotate_left
 intro bad hbad hbb
 rotate_left
 intro bad hbad hbb hbn
 rotate_left
 intro bad hbad hbb
 rotate_left
 intro bad hbad hbb hbn
 rotate_left
 all_goals
  have HN:=zH (show ∀ W,RdIn W r p n cp at_ en sz B -> Calls prog 106 #[.pointer (some ⟨r,0,none⟩),.int .i64 (wd:Nat)] W fun e w'=>e = .returned (.int .u64 N)∧RdMv W w' r #[.slice p n cp,.int .i64 (a1:Nat),.int .i64 (en:Nat),.int .i64 sz] from fun W hW=>(number_ok W r p n cp at_ en sz hW.row B hW.src.bytes wd h1 (by omega) hW.ha (by omega) hW.hen hW.hn).mono (fun e w' q=>⟨by rw [← hN];exact q.1,q.2.eq (by omega)⟩))
  have hwn:wrap64 ((N:Nat):Int) = (N:Nat):=by
   have:=nAt_lt (B:=B) (at_:=at_) (wd:=wd)
   have h2:256 ^ wd <= 256 ^ 4:=Nat.pow_le_pow_right (by omega) h4
   have h3:256 ^ 4 = 4294967296:=by decide
   unfold wrap64
   omega
  have HNE:=zH (show ∀ W,RdIn W r p n cp a1 en sz B -> Calls prog 56 #[.pointer (some ⟨r,0,none⟩),.int .i64 (N:Nat)] W fun e w'=>e = .returned (.tuple #[])∧Below W.heap.size W w' from fun W hW=>need_ok W r p n cp a1 en sz hW.row N hW.ha hs (by have:=hW.hen;have:=hW.hn;omega))
  have HV:=zH (show ∀ W,RdIn W r p n cp a1 en sz B -> (convert 28 9 (.slice (if cp = a1 then p else p.map (fun x=>x.add a1)) N (cp - a1))).run prog W = .ok (.string ⟨((B.drop a1).take N).toArray⟩) W from fun W hW=>run_string_bytes W _ _ 5 underlying28 underlying5 underlying9 _ _ _ _ (hW.src.bytes.part a1 N (by have:=hW.hen;omega)))
  have hs1':=zH (show a1 <= en by omega)
  have HSZ:=zH (show (⟨((B.drop a1).take N).toArray⟩:ByteArray).size = N by show ((B.drop a1).take N).toArray.size = N;have:=h.len;have:=h.hen;simp;omega)
  have hle:=h.src.bytes.le
  have hen:=h.hen
  have hn:=h.hn
  have ib1:(0:Int) <= (a1:Nat):=by omega
  have ib2:((a1:Nat):Int) <= (a1:Int)+(N:Nat):=by omega
  have ib3:(a1:Int)+(N:Nat) <= (cp:Nat):=by omega
  have ib4:(a1:Int)+(N:Nat) <= 140737488355328:=by omega
  have hadd:IntKind.i64.wrap ((a1:Int)+(N:Nat)) = (a1:Int)+(N:Nat):=IntWalk.i64_in _ (by omega)
 rotate_left 2
 have hbp:(0:Int) <= bad:=by simpa using hbb
 have hadb:IntKind.i64.wrap ((a1:Int)+bad) = (a1:Int)+bad:=IntWalk.i64_in _ (by omega)
 rotate_left 2
 have hbp:(0:Int) <= bad:=by simpa using hbb
 have hadb:IntKind.i64.wrap ((a1:Int)+bad) = (a1:Int)+bad:=IntWalk.i64_in _ (by omega)
 rotate_left
 all_goals
  clear hs hN ha1 h1 h4 hle hen hn
  go_enter func81,ntmps81
  go_upto_region 1 with fail
  have hb0:Below w.heap.size w (w.alloc (.cells zR 25)):=((Below.refl _ _).alloc (Nat.le_refl _) _)
  have oy:=zN w (.cells zR 25)
  generalize (w.alloc (.cells zR 25)) = w0 at *
  obtain ⟨y,hy⟩:∃ y,w.heap.size = y:=⟨_,rfl⟩
  rw [hy] at oy ⊢
  have HR0:=zH (h.blw hb0)
  have HB0:=zH (And.intro hb0 (And.intro hy oy))
  have hlt:=zH h.lt
  clear hb0 hy oy h
  go_wp2_with fail
  refine (HN.out _ HR0.out).mono ?_
  rintro e w3 ⟨rfl,hmv⟩
  have HMV:=zH hmv
  have HR3:=zH (HR0.out.mv hmv hs1'.out)
  clear hmv
  go_wp2_with fail
  refine (HNE.out _ HR3.out).mono ?_
  rintro e w4 ⟨rfl,hb4⟩
  have HR4:=zH (HR3.out.blw hb4)
  have HB4:=zH hb4
  clear hb4
  go_upto_region 3 with fail
  refine wp_region_heldN (fun V=>RdIn V r p n cp a1 en sz B) 20 rfl (by kernel_rfl) ?_
  have hS:RdIn w4.drew r p n cp a1 en sz B:=HR4.out.blw (bdrew (Below.refl _ _))
 focus
  refine tkI 0 (.int .i64 18) 17 rfl rfl (by kernel_rfl) (fun _ _ _=>id) (by rfl) (by rintro V h0;go_simp) hS ?_
 rotate_left
 focus
  refine tkI 0 (.int .i64 19) 17 rfl rfl (by kernel_rfl) (fun _ _ _=>id) (by rfl) (by rintro V h0;go_simp) hS ?_
 rotate_left
 focus
  refine tkI 0 (.int .i64 19) 17 rfl rfl (by kernel_rfl) (fun _ _ _=>id) (by rfl) (by rintro V h0;go_simp) hS ?_
 rotate_left
 focus
  refine tkI 0 (.int .i64 20) 17 rfl rfl (by kernel_rfl) (fun _ _ _=>id) (by rfl) (by rintro V h0;go_simp) hS ?_
 rotate_left
 focus
  refine tkI 0 (.int .i64 20) 17 rfl rfl (by kernel_rfl) (fun _ _ _=>id) (by rfl) (by rintro V h0;go_simp) hS ?_
 rotate_left
 all_goals
  try simp only [Act.put,sA,sB,sC]
  refine tkI 1 (.pointer (some ⟨r,0,none⟩)) 18 rfl rfl (by kernel_rfl) (fun _ _ _=>id) (by rfl) (by rintro V h0;go_simp) hS ?_
  try simp only [Act.put,sA,sB,sC]
  refine tkI 2 (.pointer (some ⟨r,0,none⟩)) 19 rfl rfl (by kernel_rfl) (fun _ _ _=>id) (by rfl) (by rintro V h0;go_simp) hS ?_
  try simp only [Act.put,sA,sB,sC]
  refine tkI 3 (.pointer (some ⟨r,0,none⟩)) 20 rfl rfl (by kernel_rfl) (fun _ _ _=>id) (by rfl) (by rintro V h0;go_simp) hS ?_
  try simp only [Act.put,sA,sB,sC]
  refine tkI 4 (.slice p n cp) 21 rfl rfl (by kernel_rfl) (fun _ _ _=>id) (by rfl) (by rintro V h0;have y0:=(cell_of_row V _ 0 _ _ _ h0.row).trans rfl;have y1:=(cell_of_row V _ 1 _ _ _ h0.row).trans rfl;go_simp) hS ?_
  try simp only [Act.put,sA,sB,sC]
  refine tkI 5 (.pointer (some ⟨r,0,none⟩)) 22 rfl rfl (by kernel_rfl) (fun _ _ _=>id) (by rfl) (by rintro V h0;go_simp) hS ?_
  try simp only [Act.put,sA,sB,sC]
  refine tkI 6 (.pointer (some ⟨r,0,none⟩)) 23 rfl rfl (by kernel_rfl) (fun _ _ _=>id) (by rfl) (by rintro V h0;go_simp) hS ?_
  try simp only [Act.put,sA,sB,sC]
  refine tkI 7 (.pointer (some ⟨r,1,none⟩)) 24 rfl rfl (by kernel_rfl) (fun _ _ _=>id) (by rfl) (by rintro V h0;go_simp) hS ?_
  try simp only [Act.put,sA,sB,sC]
  refine tkI 8 (.int .i64 (a1:Nat)) 25 rfl rfl (by kernel_rfl) (fun _ _ _=>id) (by rfl) (by rintro V h0;have y0:=(cell_of_row V _ 0 _ _ _ h0.row).trans rfl;have y1:=(cell_of_row V _ 1 _ _ _ h0.row).trans rfl;go_simp) hS ?_
  try simp only [Act.put,sA,sB,sC]
  refine tkI 9 (.pointer (some ⟨r,0,none⟩)) 26 rfl rfl (by kernel_rfl) (fun _ _ _=>id) (by rfl) (by rintro V h0;go_simp) hS ?_
  try simp only [Act.put,sA,sB,sC]
  refine tkI 10 (.pointer (some ⟨r,0,none⟩)) 27 rfl rfl (by kernel_rfl) (fun _ _ _=>id) (by rfl) (by rintro V h0;go_simp) hS ?_
  try simp only [Act.put,sA,sB,sC]
  refine tkI 11 (.pointer (some ⟨r,1,none⟩)) 28 rfl rfl (by kernel_rfl) (fun _ _ _=>id) (by rfl) (by rintro V h0;go_simp) hS ?_
  try simp only [Act.put,sA,sB,sC]
  refine tkI 12 (.int .i64 (a1:Nat)) 29 rfl rfl (by kernel_rfl) (fun _ _ _=>id) (by rfl) (by rintro V h0;have y0:=(cell_of_row V _ 0 _ _ _ h0.row).trans rfl;have y1:=(cell_of_row V _ 1 _ _ _ h0.row).trans rfl;go_simp) hS ?_
  try simp only [Act.put,sA,sB,sC]
  refine tkI 13 (.int .i64 (N:Nat)) 30 rfl rfl (by kernel_rfl) (fun _ _ _=>id) (by rfl) (by rintro V h0;go_simp) hS ?_
  try simp only [Act.put,sA,sB,sC]
  refine tkI 14 (.int .i64 ((a1:Int)+(N:Nat))) 31 rfl rfl (by kernel_rfl) (fun _ _ _=>id) (by rfl) (by rintro V h0;go_simp) hS ?_
  try simp only [Act.put,sA,sB,sC]
  refine tkI 15 ((.slice (if cp = a1 then p else p.map (fun x=>x.add a1)) N (cp - a1))) 32 rfl rfl (by kernel_rfl) (fun _ _ _=>id) (by rfl) (by rintro V h0;go_simp;omega) hS ?_
  try simp only [Act.put,sA,sB,sC]
  refine tkI 16 (.string ⟨((B.drop a1).take N).toArray⟩) 33 rfl rfl (by kernel_rfl) (fun _ _ _=>id) (by rfl) (by rintro V h0;have z5:=HV.out V h0;go_simp) hS ?_
  try simp only [Act.put,sA,sB,sC]
 focus
  refine tkI 17 (.agg #[.int .i64 18,.int .u64 0,.string ⟨((B.drop a1).take N).toArray⟩,.slice none 0 0,.int .i64 0]) 34 rfl rfl (by kernel_rfl) (fun _ _ _=>id) (by rfl) (by rintro V h0;go_simp) hS ?_
 rotate_left
 focus
  refine tkI 17 (.agg #[.int .i64 19,.int .u64 0,.string ⟨((B.drop a1).take N).toArray⟩,.slice none 0 0,.int .i64 0]) 34 rfl rfl (by kernel_rfl) (fun _ _ _=>id) (by rfl) (by rintro V h0;go_simp) hS ?_
 rotate_left
 focus
  refine tkI 17 (.agg #[.int .i64 19,.int .u64 0,.string ⟨((B.drop a1).take N).toArray⟩,.slice none 0 0,.int .i64 0]) 34 rfl rfl (by kernel_rfl) (fun _ _ _=>id) (by rfl) (by rintro V h0;go_simp) hS ?_
 rotate_left
 focus
  refine tkI 17 (.agg #[.int .i64 20,.int .u64 0,.string ⟨((B.drop a1).take N).toArray⟩,.slice none 0 0,.int .i64 0]) 34 rfl rfl (by kernel_rfl) (fun _ _ _=>id) (by rfl) (by rintro V h0;go_simp) hS ?_
 rotate_left
 focus
  refine tkI 17 (.agg #[.int .i64 20,.int .u64 0,.string ⟨((B.drop a1).take N).toArray⟩,.slice none 0 0,.int .i64 0]) 34 rfl rfl (by kernel_rfl) (fun _ _ _=>id) (by rfl) (by rintro V h0;go_simp) hS ?_
 rotate_left
 all_goals
  try simp only [Act.put,sA,sB,sC]
  have hS2:RdIn (w4.drew.alloc (.cells zR 25)) r p n cp a1 en sz B:=hS.blw ((Below.refl _ _).alloc (Nat.le_refl _) _)
  refine oneH (i:=18) (by kernel_rfl) ?_
  refine stepD (i:=18) rfl (by rfl) (fun K5 h5=>?_)
  go_simp
  refine h5.out _ _ hS2 ?_
  clear h5
  try simp only [Act.put,sA,sB,sC]
 have hb6:Below w4.heap.size w4.drew ((w4.drew.alloc (.cells zR 25)).setRow w4.heap.size #[.int .i64 18,.int .u64 0,.string ⟨((B.drop a1).take N).toArray⟩,.slice none 0 0,.int .i64 0]):=below_setRow ((Below.refl w4.heap.size w4.drew).alloc (Nat.le_refl w4.heap.size) _) (Nat.le_refl w4.heap.size) _
 have ox:=setRow_heap (w4.drew.alloc (.cells zR 25)) w4.heap.size _ #[.int .i64 18,.int .u64 0,.string ⟨((B.drop a1).take N).toArray⟩,.slice none 0 0,.int .i64 0] _ _ (zN w4.drew _)
 have hS3:RdIn ((w4.drew.alloc (.cells zR 25)).setRow w4.heap.size #[.int .i64 18,.int .u64 0,.string ⟨((B.drop a1).take N).toArray⟩,.slice none 0 0,.int .i64 0]) r p n cp a1 en sz B:=hS.blw hb6
 rotate_left
 have hb6:Below w4.heap.size w4.drew ((w4.drew.alloc (.cells zR 25)).setRow w4.heap.size #[.int .i64 19,.int .u64 0,.string ⟨((B.drop a1).take N).toArray⟩,.slice none 0 0,.int .i64 0]):=below_setRow ((Below.refl w4.heap.size w4.drew).alloc (Nat.le_refl w4.heap.size) _) (Nat.le_refl w4.heap.size) _
 have ox:=setRow_heap (w4.drew.alloc (.cells zR 25)) w4.heap.size _ #[.int .i64 19,.int .u64 0,.string ⟨((B.drop a1).take N).toArray⟩,.slice none 0 0,.int .i64 0] _ _ (zN w4.drew _)
 have hS3:RdIn ((w4.drew.alloc (.cells zR 25)).setRow w4.heap.size #[.int .i64 19,.int .u64 0,.string ⟨((B.drop a1).take N).toArray⟩,.slice none 0 0,.int .i64 0]) r p n cp a1 en sz B:=hS.blw hb6
 rotate_left
 have hb6:Below w4.heap.size w4.drew ((w4.drew.alloc (.cells zR 25)).setRow w4.heap.size #[.int .i64 19,.int .u64 0,.string ⟨((B.drop a1).take N).toArray⟩,.slice none 0 0,.int .i64 0]):=below_setRow ((Below.refl w4.heap.size w4.drew).alloc (Nat.le_refl w4.heap.size) _) (Nat.le_refl w4.heap.size) _
 have ox:=setRow_heap (w4.drew.alloc (.cells zR 25)) w4.heap.size _ #[.int .i64 19,.int .u64 0,.string ⟨((B.drop a1).take N).toArray⟩,.slice none 0 0,.int .i64 0] _ _ (zN w4.drew _)
 have hS3:RdIn ((w4.drew.alloc (.cells zR 25)).setRow w4.heap.size #[.int .i64 19,.int .u64 0,.string ⟨((B.drop a1).take N).toArray⟩,.slice none 0 0,.int .i64 0]) r p n cp a1 en sz B:=hS.blw hb6
 rotate_left
 have hb6:Below w4.heap.size w4.drew ((w4.drew.alloc (.cells zR 25)).setRow w4.heap.size #[.int .i64 20,.int .u64 0,.string ⟨((B.drop a1).take N).toArray⟩,.slice none 0 0,.int .i64 0]):=below_setRow ((Below.refl w4.heap.size w4.drew).alloc (Nat.le_refl w4.heap.size) _) (Nat.le_refl w4.heap.size) _
 have ox:=setRow_heap (w4.drew.alloc (.cells zR 25)) w4.heap.size _ #[.int .i64 20,.int .u64 0,.string ⟨((B.drop a1).take N).toArray⟩,.slice none 0 0,.int .i64 0] _ _ (zN w4.drew _)
 have hS3:RdIn ((w4.drew.alloc (.cells zR 25)).setRow w4.heap.size #[.int .i64 20,.int .u64 0,.string ⟨((B.drop a1).take N).toArray⟩,.slice none 0 0,.int .i64 0]) r p n cp a1 en sz B:=hS.blw hb6
 rotate_left
 have hb6:Below w4.heap.size w4.drew ((w4.drew.alloc (.cells zR 25)).setRow w4.heap.size #[.int .i64 20,.int .u64 0,.string ⟨((B.drop a1).take N).toArray⟩,.slice none 0 0,.int .i64 0]):=below_setRow ((Below.refl w4.heap.size w4.drew).alloc (Nat.le_refl w4.heap.size) _) (Nat.le_refl w4.heap.size) _
 have ox:=setRow_heap (w4.drew.alloc (.cells zR 25)) w4.heap.size _ #[.int .i64 20,.int .u64 0,.string ⟨((B.drop a1).take N).toArray⟩,.slice none 0 0,.int .i64 0] _ _ (zN w4.drew _)
 have hS3:RdIn ((w4.drew.alloc (.cells zR 25)).setRow w4.heap.size #[.int .i64 20,.int .u64 0,.string ⟨((B.drop a1).take N).toArray⟩,.slice none 0 0,.int .i64 0]) r p n cp a1 en sz B:=hS.blw hb6
 rotate_left
 all_goals
  refine oneH (i:=19) (by kernel_rfl) ?_
  refine stepD (i:=19) rfl (by rfl) (fun K5 h5=>?_)
 refine wp_store_rowN 25 (.tmp 8) (.tmp 34) rfl rfl w4.heap.size #[.int .i64 18,.int .u64 0,.string ⟨((B.drop a1).take N).toArray⟩,.slice none 0 0,.int .i64 0] rfl rfl 25 zR (zN w4.drew _) (by as_aux_lemma=>kernel_rfl) (by as_aux_lemma=>kernel_rfl) (by simp [Value.oneCell']) ?_
 rotate_left
 refine wp_store_rowN 25 (.tmp 8) (.tmp 34) rfl rfl w4.heap.size #[.int .i64 19,.int .u64 0,.string ⟨((B.drop a1).take N).toArray⟩,.slice none 0 0,.int .i64 0] rfl rfl 25 zR (zN w4.drew _) (by as_aux_lemma=>kernel_rfl) (by as_aux_lemma=>kernel_rfl) (by simp [Value.oneCell']) ?_
 rotate_left
 refine wp_store_rowN 25 (.tmp 8) (.tmp 34) rfl rfl w4.heap.size #[.int .i64 19,.int .u64 0,.string ⟨((B.drop a1).take N).toArray⟩,.slice none 0 0,.int .i64 0] rfl rfl 25 zR (zN w4.drew _) (by as_aux_lemma=>kernel_rfl) (by as_aux_lemma=>kernel_rfl) (by simp [Value.oneCell']) ?_
 rotate_left
 refine wp_store_rowN 25 (.tmp 8) (.tmp 34) rfl rfl w4.heap.size #[.int .i64 20,.int .u64 0,.string ⟨((B.drop a1).take N).toArray⟩,.slice none 0 0,.int .i64 0] rfl rfl 25 zR (zN w4.drew _) (by as_aux_lemma=>kernel_rfl) (by as_aux_lemma=>kernel_rfl) (by simp [Value.oneCell']) ?_
 rotate_left
 refine wp_store_rowN 25 (.tmp 8) (.tmp 34) rfl rfl w4.heap.size #[.int .i64 20,.int .u64 0,.string ⟨((B.drop a1).take N).toArray⟩,.slice none 0 0,.int .i64 0] rfl rfl 25 zR (zN w4.drew _) (by as_aux_lemma=>kernel_rfl) (by as_aux_lemma=>kernel_rfl) (by simp [Value.oneCell']) ?_
 rotate_left
 all_goals
  refine h5.out _ _ hS3 ?_
  clear h5
  try simp only [Act.put,sA,sB,sC]
  refine wpAnyH_done (by kernel_rfl) ?_ _
 focus
  change Exit.then _ _ _ _ ((w4.drew.alloc (.cells zR 25)).setRow w4.heap.size #[.int .i64 18,.int .u64 0,.string ⟨((B.drop a1).take N).toArray⟩,.slice none 0 0,.int .i64 0])
  generalize ((w4.drew.alloc (.cells zR 25)).setRow w4.heap.size #[.int .i64 18,.int .u64 0,.string ⟨((B.drop a1).take N).toArray⟩,.slice none 0 0,.int .i64 0]) = w6 at *
 rotate_left
 focus
  change Exit.then _ _ _ _ ((w4.drew.alloc (.cells zR 25)).setRow w4.heap.size #[.int .i64 19,.int .u64 0,.string ⟨((B.drop a1).take N).toArray⟩,.slice none 0 0,.int .i64 0])
  generalize ((w4.drew.alloc (.cells zR 25)).setRow w4.heap.size #[.int .i64 19,.int .u64 0,.string ⟨((B.drop a1).take N).toArray⟩,.slice none 0 0,.int .i64 0]) = w6 at *
 rotate_left
 focus
  change Exit.then _ _ _ _ ((w4.drew.alloc (.cells zR 25)).setRow w4.heap.size #[.int .i64 19,.int .u64 0,.string ⟨((B.drop a1).take N).toArray⟩,.slice none 0 0,.int .i64 0])
  generalize ((w4.drew.alloc (.cells zR 25)).setRow w4.heap.size #[.int .i64 19,.int .u64 0,.string ⟨((B.drop a1).take N).toArray⟩,.slice none 0 0,.int .i64 0]) = w6 at *
 rotate_left
 focus
  change Exit.then _ _ _ _ ((w4.drew.alloc (.cells zR 25)).setRow w4.heap.size #[.int .i64 20,.int .u64 0,.string ⟨((B.drop a1).take N).toArray⟩,.slice none 0 0,.int .i64 0])
  generalize ((w4.drew.alloc (.cells zR 25)).setRow w4.heap.size #[.int .i64 20,.int .u64 0,.string ⟨((B.drop a1).take N).toArray⟩,.slice none 0 0,.int .i64 0]) = w6 at *
 rotate_left
 focus
  change Exit.then _ _ _ _ ((w4.drew.alloc (.cells zR 25)).setRow w4.heap.size #[.int .i64 20,.int .u64 0,.string ⟨((B.drop a1).take N).toArray⟩,.slice none 0 0,.int .i64 0])
  generalize ((w4.drew.alloc (.cells zR 25)).setRow w4.heap.size #[.int .i64 20,.int .u64 0,.string ⟨((B.drop a1).take N).toArray⟩,.slice none 0 0,.int .i64 0]) = w6 at *
 rotate_left
 all_goals
  have oy5:w4.drew.heap[y]? = some (.cells zR 25 (0,0)):=(HB4.out.block y (by have:=HMV.out.keep.size;have:=(gl HB0.out.2.2);omega)).trans ((HMV.out.keep.block y (gl HB0.out.2.2) (fun e=>by have:=hlt.out;have:=HB0.out.2.1;omega)).trans HB0.out.2.2)
  have oy6:=(hb6.block y (gl oy5)).trans oy5
  have hyx:y ≠ w4.heap.size:=fun e=>by have h2:y < w4.heap.size:=(gl oy5);omega
  have HM6:=zH (((KeepF.of_below HB0.out.1).trans HMV.out.keep).trans ((KeepF.of_below (bdrew HB4.out)).trans (KeepF.of_below hb6)))
  obtain ⟨x,hx⟩:∃ x,w4.heap.size = x:=⟨_,rfl⟩
  have HXL:=zH (show w4.heap.size = x∧w.heap.size <= w4.heap.size from ⟨hx,by have:=HB0.out.1.size;have:=HMV.out.keep.size;have:=HB4.out.size;omega⟩)
  rw [hx] at ox hyx ⊢
  have HX:=zH (And.intro (And.intro hyx hS3) (And.intro oy6 ox))
  clear hb6 hS hS2 hS3 oy5 hyx hx
  generalize (if cp = a1 then p else p.map (fun x=>x.add a1)) = ps at *
  obtain ⟨S,hS⟩:∃ S,(⟨((B.drop a1).take N).toArray⟩:ByteArray) = S:=⟨_,rfl⟩
  simp only [hS] at ox HX ⊢
  obtain ⟨x0,x1,x2,x3,x4⟩:=c5 ox
  have HS:=zH hS
 obtain ⟨w7,hw7⟩:∃ w7,w6 = w7:=⟨_,rfl⟩
 have hb7:Below w6.heap.size w6 w7:=by rw [← hw7];exact Below.refl _ _
 rw [hw7] at x0 x1 x2 x3 x4 ⊢
 clear hw7
 clear x0 x1 x2 x3 x4 oy6 hS
 rotate_left
 focus
  have hSs:S.size = N:=by rw [← hS];exact HSZ.out
  have HU:=zH (show ∀ W,Tabs W -> Calls prog 100 #[.string S] W fun e w'=>e = .returned (.int .i64 bad)∧Below W.heap.size W w' from fun W hT=>by rw [← hbad,hS];exact utf8_any S W (by omega) hT)
  clear ox oy6 hS
  go_wp2_with fail
  refine (HU.out _ HX.out.1.2.src.tabs).mono ?_
  rintro e w7 ⟨rfl,hb7⟩
  clear x0 x1 x2 x3 x4
 rotate_left
 focus
  have hSs:S.size = N:=by rw [← hS];exact HSZ.out
  have HU:=zH (show ∀ W,Tabs W -> Calls prog 100 #[.string S] W fun e w'=>e = .returned (.int .i64 bad)∧Below W.heap.size W w' from fun W hT=>by rw [← hbad,hS];exact utf8_any S W (by omega) hT)
  clear ox oy6 hS
  go_wp2_with fail
  refine (HU.out _ HX.out.1.2.src.tabs).mono ?_
  rintro e w7 ⟨rfl,hb7⟩
  clear x0 x1 x2 x3 x4
 rotate_left
 focus
  have hSs:S.size = N:=by rw [← hS];exact HSZ.out
  have HU:=zH (show ∀ W,Tabs W -> Calls prog 101 #[.string S] W fun e w'=>e = .returned (.int .i64 bad)∧Below W.heap.size W w' from fun W hT=>by rw [← hbad,hS];exact (ascii_any S W (by omega)).mono (fun e w' q=>by obtain ⟨q1,rfl⟩:=q;exact ⟨q1,Below.refl _ _⟩))
  clear ox oy6 hS
  go_wp2_with fail
  refine (HU.out _ HX.out.1.2.src.tabs).mono ?_
  rintro e w7 ⟨rfl,hb7⟩
  clear x0 x1 x2 x3 x4
 rotate_left
 focus
  have hSs:S.size = N:=by rw [← hS];exact HSZ.out
  have HU:=zH (show ∀ W,Tabs W -> Calls prog 101 #[.string S] W fun e w'=>e = .returned (.int .i64 bad)∧Below W.heap.size W w' from fun W hT=>by rw [← hbad,hS];exact (ascii_any S W (by omega)).mono (fun e w' q=>by obtain ⟨q1,rfl⟩:=q;exact ⟨q1,Below.refl _ _⟩))
  clear ox oy6 hS
  go_wp2_with fail
  refine (HU.out _ HX.out.1.2.src.tabs).mono ?_
  rintro e w7 ⟨rfl,hb7⟩
  clear x0 x1 x2 x3 x4
 rotate_left
 all_goals
  have hS7:=HX.out.1.2.blw hb7
  have ox7:=(hb7.block x (gl HX.out.2.2)).trans HX.out.2.2
  have oy7:=(hb7.block y (gl HX.out.2.1)).trans HX.out.2.1
  have HX7:=zH (And.intro hS7 (And.intro ox7 oy7))
  have HM7:=zH (HM6.out.trans (KeepF.of_below hb7))
  have r1:w7.cell? ⟨r,1,none⟩ = some (.int .i64 (a1:Nat)):=(cell_of_row _ _ 1 _ _ _ hS7.row).trans rfl
  have fr:w7.frozen? ⟨r,1,none⟩ = false:=by simp [World.frozen?,hS7.row]
  clear hb7 hS7 ox7 oy7
 ·go_upto_region 13 with fail
  have hxr:x ≠ r:=fun e=>by have:=hlt.out;have:=HXL.out;omega
  have hyr:y ≠ r:=fun e=>by have:=hlt.out;have:=HB0.out.2.1;omega
  have ox8:(w7.setCell ⟨r,1,none⟩ (.int .i64 ((a1:Int)+(N:Nat)))).heap[x]? = some (.cells #[.int .i64 18,.int .u64 0,.string S,.slice none 0 0,.int .i64 0] 25 (0,0)):=(set_farV hxr).trans HX7.out.2.1
  have oy8:(w7.setCell ⟨r,1,none⟩ (.int .i64 ((a1:Int)+(N:Nat)))).heap[y]? = some (.cells zR 25 (0,0)):=(set_farV hyr).trans HX7.out.2.2
  have or8:=heap_setCell_same w7 r 1 _ _ (.int .i64 ((a1:Int)+(N:Nat))) HX7.out.1.row
  have hk8:KeepF (fun g=>g = r) w7 (w7.setCell ⟨r,1,none⟩ (.int .i64 ((a1:Int)+(N:Nat)))):=⟨rfl,rfl,rfl,by simp,fun j hj hne=>set_farV hne⟩
  change Code.wp _ _ _ _ (w7.setCell ⟨r,1,none⟩ (.int .i64 ((a1:Int)+(N:Nat))))
  generalize w7.setCell ⟨r,1,none⟩ (.int .i64 ((a1:Int)+(N:Nat))) = w8 at *
  have HX8:=zH (And.intro (And.intro or8 hk8) (And.intro ox8 oy8))
  have hyr':=zH (Ne.symm hyr)
  obtain ⟨x0,x1,x2,x3,x4⟩:=c5 ox8
  clear r1 fr or8 hk8 ox8 hxr hyr
  go_wp2_with (refine stV (.tmp 6) (.tmp 63) rfl rfl rfl rfl rfl oy8 rfl ?_)
  have hh:=setRow_heap w8 y _ #[.int .i64 18,.int .u64 0,.string S,.slice none 0 0,.int .i64 0] _ _ HX8.out.2.2
  have hB:=below_setRow (Below.refl y w8) (Nat.le_refl y) #[.int .i64 18,.int .u64 0,.string S,.slice none 0 0,.int .i64 0]
  refine bodyPost_ret (results_cell_row (p:=6) (ty:=25) (by kernel_rfl) _ _ y 25 #[.int .i64 18,.int .u64 0,.string S,.slice none 0 0,.int .i64 0] (0,0) _ rfl hh underlying25 rfl (by as_aux_lemma=>kernel_rfl)) rfl ?_
  rw [HS.out]
  have hk9:=HM7.out.trans HX8.out.1.2
  have hy0:=HB0.out.2.1
  exact ⟨rfl,⟨hk9.os,hk9.tape,hk9.output,Nat.le_trans hk9.size (by simp),fun j hj hne=>(setRow_other w8 y j _ (fun e=>by omega)).trans (hk9.block j hj hne)⟩,(setRow_other w8 y r _ hyr'.out).trans HX8.out.1.1⟩
 ·go_upto_region 13 with fail
  have hxr:x ≠ r:=fun e=>by have:=hlt.out;have:=HXL.out;omega
  have hyr:y ≠ r:=fun e=>by have:=hlt.out;have:=HB0.out.2.1;omega
  have ox8:(w7.setCell ⟨r,1,none⟩ (.int .i64 ((a1:Int)+(N:Nat)))).heap[x]? = some (.cells #[.int .i64 19,.int .u64 0,.string S,.slice none 0 0,.int .i64 0] 25 (0,0)):=(set_farV hxr).trans HX7.out.2.1
  have oy8:(w7.setCell ⟨r,1,none⟩ (.int .i64 ((a1:Int)+(N:Nat)))).heap[y]? = some (.cells zR 25 (0,0)):=(set_farV hyr).trans HX7.out.2.2
  have or8:=heap_setCell_same w7 r 1 _ _ (.int .i64 ((a1:Int)+(N:Nat))) HX7.out.1.row
  have hk8:KeepF (fun g=>g = r) w7 (w7.setCell ⟨r,1,none⟩ (.int .i64 ((a1:Int)+(N:Nat)))):=⟨rfl,rfl,rfl,by simp,fun j hj hne=>set_farV hne⟩
  change Code.wp _ _ _ _ (w7.setCell ⟨r,1,none⟩ (.int .i64 ((a1:Int)+(N:Nat))))
  generalize w7.setCell ⟨r,1,none⟩ (.int .i64 ((a1:Int)+(N:Nat))) = w8 at *
  have HX8:=zH (And.intro (And.intro or8 hk8) (And.intro ox8 oy8))
  have hyr':=zH (Ne.symm hyr)
  obtain ⟨x0,x1,x2,x3,x4⟩:=c5 ox8
  clear r1 fr or8 hk8 ox8 hxr hyr
  go_wp2_with (refine stV (.tmp 6) (.tmp 63) rfl rfl rfl rfl rfl oy8 rfl ?_)
  have hh:=setRow_heap w8 y _ #[.int .i64 19,.int .u64 0,.string S,.slice none 0 0,.int .i64 0] _ _ HX8.out.2.2
  have hB:=below_setRow (Below.refl y w8) (Nat.le_refl y) #[.int .i64 19,.int .u64 0,.string S,.slice none 0 0,.int .i64 0]
  refine bodyPost_ret (results_cell_row (p:=6) (ty:=25) (by kernel_rfl) _ _ y 25 #[.int .i64 19,.int .u64 0,.string S,.slice none 0 0,.int .i64 0] (0,0) _ rfl hh underlying25 rfl (by as_aux_lemma=>kernel_rfl)) rfl ?_
  rw [HS.out]
  have hk9:=HM7.out.trans HX8.out.1.2
  have hy0:=HB0.out.2.1
  exact ⟨rfl,⟨hk9.os,hk9.tape,hk9.output,Nat.le_trans hk9.size (by simp),fun j hj hne=>(setRow_other w8 y j _ (fun e=>by omega)).trans (hk9.block j hj hne)⟩,(setRow_other w8 y r _ hyr'.out).trans HX8.out.1.1⟩
 ·go_wp2_with fail
  refine (wrong_any _ _ _).mono ?_
  rintro e w8 ⟨rfl,rfl⟩
  exact ⟨rfl,rfl,HM7.out⟩
 ·go_upto_region 13 with fail
  have hxr:x ≠ r:=fun e=>by have:=hlt.out;have:=HXL.out;omega
  have hyr:y ≠ r:=fun e=>by have:=hlt.out;have:=HB0.out.2.1;omega
  have ox8:(w7.setCell ⟨r,1,none⟩ (.int .i64 ((a1:Int)+(N:Nat)))).heap[x]? = some (.cells #[.int .i64 20,.int .u64 0,.string S,.slice none 0 0,.int .i64 0] 25 (0,0)):=(set_farV hxr).trans HX7.out.2.1
  have oy8:(w7.setCell ⟨r,1,none⟩ (.int .i64 ((a1:Int)+(N:Nat)))).heap[y]? = some (.cells zR 25 (0,0)):=(set_farV hyr).trans HX7.out.2.2
  have or8:=heap_setCell_same w7 r 1 _ _ (.int .i64 ((a1:Int)+(N:Nat))) HX7.out.1.row
  have hk8:KeepF (fun g=>g = r) w7 (w7.setCell ⟨r,1,none⟩ (.int .i64 ((a1:Int)+(N:Nat)))):=⟨rfl,rfl,rfl,by simp,fun j hj hne=>set_farV hne⟩
  change Code.wp _ _ _ _ (w7.setCell ⟨r,1,none⟩ (.int .i64 ((a1:Int)+(N:Nat))))
  generalize w7.setCell ⟨r,1,none⟩ (.int .i64 ((a1:Int)+(N:Nat))) = w8 at *
  have HX8:=zH (And.intro (And.intro or8 hk8) (And.intro ox8 oy8))
  have hyr':=zH (Ne.symm hyr)
  obtain ⟨x0,x1,x2,x3,x4⟩:=c5 ox8
  clear r1 fr or8 hk8 ox8 hxr hyr
  go_wp2_with (refine stV (.tmp 6) (.tmp 63) rfl rfl rfl rfl rfl oy8 rfl ?_)
  have hh:=setRow_heap w8 y _ #[.int .i64 20,.int .u64 0,.string S,.slice none 0 0,.int .i64 0] _ _ HX8.out.2.2
  have hB:=below_setRow (Below.refl y w8) (Nat.le_refl y) #[.int .i64 20,.int .u64 0,.string S,.slice none 0 0,.int .i64 0]
  refine bodyPost_ret (results_cell_row (p:=6) (ty:=25) (by kernel_rfl) _ _ y 25 #[.int .i64 20,.int .u64 0,.string S,.slice none 0 0,.int .i64 0] (0,0) _ rfl hh underlying25 rfl (by as_aux_lemma=>kernel_rfl)) rfl ?_
  rw [HS.out]
  have hk9:=HM7.out.trans HX8.out.1.2
  have hy0:=HB0.out.2.1
  exact ⟨rfl,⟨hk9.os,hk9.tape,hk9.output,Nat.le_trans hk9.size (by simp),fun j hj hne=>(setRow_other w8 y j _ (fun e=>by omega)).trans (hk9.block j hj hne)⟩,(setRow_other w8 y r _ hyr'.out).trans HX8.out.1.1⟩
 go_wp2_with fail
 refine (wrong_any _ _ _).mono ?_
 rintro e w8 ⟨rfl,rfl⟩
 exact ⟨rfl,rfl,HM7.out⟩
def text_18:=fun wd w r p n cp at_ en sz own B h h1 h4 N a1 hN ha1 hs=>(mrg_text_18 wd w r p n cp at_ en sz own B h h1 h4 N a1 hN ha1 hs).1
def text_19:=fun wd w r p n cp at_ en sz own B h h1 h4 N a1 hN ha1 hs=>(mrg_text_18 wd w r p n cp at_ en sz own B h h1 h4 N a1 hN ha1 hs).2.1
def text_19x:=fun wd w r p n cp at_ en sz own B h h1 h4 N a1 hN ha1 hs=>(mrg_text_18 wd w r p n cp at_ en sz own B h h1 h4 N a1 hN ha1 hs).2.2.1
def text_20:=fun wd w r p n cp at_ en sz own B h h1 h4 N a1 hN ha1 hs=>(mrg_text_18 wd w r p n cp at_ en sz own B h h1 h4 N a1 hN ha1 hs).2.2.2.1
def text_20x:=fun wd w r p n cp at_ en sz own B h h1 h4 N a1 hN ha1 hs=>(mrg_text_18 wd w r p n cp at_ en sz own B h h1 h4 N a1 hN ha1 hs).2.2.2.2
end Go.Proofs.YtnnnfhobbnjmfaaGreatDoor
