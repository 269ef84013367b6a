/-
  Lemmas on the codec. Conditions: as each says.
-/
import Derived.Test.YtnnnfhobbnjmfaaGreatDoorWn02
import Derived.Shelf.Small.Bits
import Derived.Shelf.Small.Strs
import Derived.Shelf.Small.Wraps
import Derived.Shelf.Strconv.Itoa0
import Derived.Shelf.Unicode.DecodeSlow
import Derived.Shelf.Unicode.DecodeAny
import Derived.Ground.Names2Prog
import Derived.Shelf.Slices.SearchI
import Derived.Test.YtnnnfhobbnjmfaaGreatDoorProg
import Derived.Handy
namespace Go.Proofs.YtnnnfhobbnjmfaaGreatDoor
open Go.RowKit Go.Proofs.Tryz
set_option linter.all false
set_option maxHeartbeats 40000000
set_option maxRecDepth 20000

theorem teq (a b:ByteArray):(a.toList == b.toList) = decide (a = b):=by
 rw [ByteArray.toList_eq,ByteArray.toList_eq,Bool.eq_iff_iff]
 simp only [beq_iff_eq,decide_eq_true_eq]
 exact ⟨fun h=>by cases a;cases b;congr 1;exact Array.toList_inj.1 h,fun h=>by rw [h]⟩
theorem list_ext_k {a b:List V} (hl:a.length = b.length) (h:∀ j (h1:j < a.length) (h2:j < b.length),a[j] = b[j]):a = b:=List.ext_getElem hl h
theorem requal_any:∀ (a:V) (w:World) (s:Value) (b:V) (t:Value),VIn w a s -> VIn w b t →
  Calls Tryz.prog 27 #[.agg #[.int .i64 a.kind,.int .u64 a.num,.string a.text,s,.int .i64 a.elem],.agg #[.int .i64 b.kind,.int .u64 b.num,.string b.text,t,.int .i64 b.elem]] w fun e w'=>e = .returned (.bool (decide (a = b)))∧Below w.heap.size w w':=by
 refine V.ind (fun a ih w s b t h hb=>?_)
 obtain ⟨p,c,hs,h1,h2,h3⟩:=h.slice
 obtain ⟨q,d,ht,k1,k2,k3⟩:=hb.slice
 obtain ⟨N,hN⟩:∃ N,a.list.length = N:=⟨_,rfl⟩
 obtain ⟨M,hM⟩:∃ M,b.list.length = M:=⟨_,rfl⟩
 rw [hN] at hs h1 h3
 rw [hM] at ht k1 k3
 subst hs ht
 unfold maxLen at h2 k2
 obtain ⟨D,hD⟩:∃ D,decide (a = b) = D:=⟨_,rfl⟩
 rw [hD]
 have HD:=zH hD
 clear hD
 have HI:=zH ih
 have HN:=zH (And.intro hN hM)
 have HV:=zH (And.intro h hb)
 clear ih h hb hN hM
 go_enter Tryz.func27,Tryz.ntmps27
 go_upto_region 1 with fail
 have hb0:Below w.heap.size w ((w.alloc (.cells #[.int .i64 a.kind,.int .u64 a.num,.string a.text,(.slice p N c),.int .i64 a.elem] 25)).alloc (.cells #[.int .i64 b.kind,.int .u64 b.num,.string b.text,(.slice q M d),.int .i64 b.elem] 25)):=(((Below.refl _ _).alloc (Nat.le_refl _) _).alloc (by simp) _)
 have ox:((w.alloc (.cells #[.int .i64 a.kind,.int .u64 a.num,.string a.text,(.slice p N c),.int .i64 a.elem] 25)).alloc (.cells #[.int .i64 b.kind,.int .u64 b.num,.string b.text,(.slice q M d),.int .i64 b.elem] 25)).heap[w.heap.size]? = some (.cells #[.int .i64 a.kind,.int .u64 a.num,.string a.text,(.slice p N c),.int .i64 a.elem] 25 (0,0)):=(hao _ _ (by simp)).trans (zN _ _)
 have oy:((w.alloc (.cells #[.int .i64 a.kind,.int .u64 a.num,.string a.text,(.slice p N c),.int .i64 a.elem] 25)).alloc (.cells #[.int .i64 b.kind,.int .u64 b.num,.string b.text,(.slice q M d),.int .i64 b.elem] 25)).heap[w.heap.size+1]? = some (.cells #[.int .i64 b.kind,.int .u64 b.num,.string b.text,(.slice q M d),.int .i64 b.elem] 25 (0,0)):=by have:=zN (w.alloc (.cells #[.int .i64 a.kind,.int .u64 a.num,.string a.text,(.slice p N c),.int .i64 a.elem] 25)) (.cells #[.int .i64 b.kind,.int .u64 b.num,.string b.text,(.slice q M d),.int .i64 b.elem] 25);rwa [World.size_alloc] at this
 generalize ((w.alloc (.cells #[.int .i64 a.kind,.int .u64 a.num,.string a.text,(.slice p N c),.int .i64 a.elem] 25)).alloc (.cells #[.int .i64 b.kind,.int .u64 b.num,.string b.text,(.slice q M d),.int .i64 b.elem] 25)) = w0 at *
 obtain ⟨x,hx⟩:∃ x,w.heap.size = x:=⟨_,rfl⟩
 rw [hx] at ox oy ⊢
 obtain ⟨y,hy⟩:∃ y,x+1 = y:=⟨_,rfl⟩
 rw [hy] at oy ⊢
 have HB0:=zH hb0
 have HOx:=zH ox
 have HOy:=zH oy
 clear hb0 ox oy hx hy
 obtain ⟨x0,x1,x2,x3,x4⟩:=c5 HOx.out
 obtain ⟨y0,y1,y2,y3,y4⟩:=c5 HOy.out
 by_cases hk:a.kind = b.kind
 ·have hk_t:(a.kind == b.kind) = true:=by simpa using hk
  have Hhk:=zH hk
  clear hk
  by_cases hn:a.num = b.num
  ·have hn_t:(a.num == b.num) = true:=by simpa using hn
   have Hhn:=zH hn
   clear hn
   by_cases htx:a.text = b.text
   ·have htx_t:(a.text.toList == b.text.toList) = true:=by rw [teq];exact decide_eq_true htx
    have Hhtx:=zH htx
    clear htx
    by_cases he:a.elem = b.elem
    ·have he_t:(a.elem == b.elem) = true:=by simpa using he
     have Hhe:=zH he
     clear he
     have HE:=zH (And.intro Hhk.out (And.intro Hhn.out (And.intro Hhtx.out Hhe.out)))
     by_cases hNM:N = M
     ·have hNMi:(N:Int) = M:=by omega
      have HNM:=zH hNM
      go_wp2_with fail
      go_loopw [5] (fun v5 wr=>∃ k:Nat,k <= N∧v5 = .int .i64 k∧(∀ j (j1:j < a.list.length) (j2:j < b.list.length),j < k -> a.list[j] = b.list[j])∧Below w0.heap.size w0 wr) (fun v5 _=>N - (intOf v5).toNat)
      case atStart=>exact ⟨0,Nat.zero_le _,rfl,fun j _ _ h=>by omega,Below.refl _ _⟩
      case round =>
       obtain ⟨k,hk',rfl,hsame,hbw⟩:=hrel
       have HR:=zH (And.intro hsame hbw)
       have x3:=bs_cellV hbw x3
       have y3:=bs_cellV hbw y3
       clear hsame hbw
       by_cases hkN:(k:Int) < N
       ·have ka:k < a.list.length:=by rw [HN.out.1];omega
        have kb:k < b.list.length:=by rw [HN.out.2];omega
        obtain ⟨b1,o1,rfl⟩:=h3 (by omega)
        obtain ⟨b2,o2,rfl⟩:=k3 (by omega)
        have hB:=HB0.out.trans (HR.out.2.mono HB0.out.size)
        obtain ⟨ta,hta,hia⟩:=(HV.out.1.blw hB).part rfl ka
        obtain ⟨tb,htb,hib⟩:=(HV.out.2.blw hB).part rfl kb
        obtain ⟨c0,c1,c2,c3,c4⟩:=part_cells hta
        obtain ⟨d0,d1,d2,d3,d4⟩:=part_cells htb
        have hd:Below wr.heap.size wr wr.drew:=⟨rfl,rfl,rfl,Nat.le_refl _,fun _ _=>rfl⟩
        have hc:=HI.out _ (List.getElem_mem ka) wr.drew ta _ tb (hia.blw hd) (hib.blw hd)
        have HS:=zH (show ∀ j (j1:j < a.list.length) (j2:j < b.list.length),j < k+1 -> (decide (a.list[k] = b.list[k])) = true -> a.list[j] = b.list[j] from fun j j1 j2 hj he=>by
         by_cases e:j = k
         ·subst e;exact of_decide_eq_true he
         ·exact HR.out.1 j j1 j2 (by omega))
        have HF:=zH (show (decide (a.list[k] = b.list[k])) = false -> D = false from fun he=>by
         rw [← HD.out]
         exact decide_eq_false (fun q=>of_decide_eq_false he (by simp only [q])))
        generalize decide (a.list[k] = b.list[k]) = z at hc HS HF
        generalize a.list[k] = ya at *
        generalize b.list[k] = yb at *
        clear hB hta htb hia hib hd
        have HC:=zH hc
        clear hc
        go_wp2_with fail
        go_still_tail 10,(by kernel_rfl)
        change wpList _ _ _ _ _ wr.drew
        have HDR:Hid (Below w0.heap.size w0 wr.drew):=zH ⟨HR.out.2.os,HR.out.2.tape,HR.out.2.output,HR.out.2.size,HR.out.2.block⟩
        generalize wr.drew = wd at *
        go_wp2_with fail
        refine HC.out.mono ?_
        rintro e w1 ⟨rfl,hb1⟩
        have HB1:=zH (HDR.out.trans (hb1.mono HDR.out.size))
        clear hb1
        cases z
        ·have hDf:=HF.out rfl
         subst hDf
         go_wp2_with fail
         go_ret
         exact ⟨rfl,HB0.out.trans (HB1.out.mono HB0.out.size)⟩
        ·go_wp2_with fail
         go_roundw
         case rel=>exact ⟨k+1,by omega,by go_num,fun j j1 j2 hj=>HS.out j j1 j2 hj (by first|rfl|trivial),HB1.out⟩
         case measure=>simp [intOf];omega
       ·have hDt:D = true:=by
         rw [← HD.out]
         exact decide_eq_true (V.ext HE.out.1 HE.out.2.1 HE.out.2.2.1 (list_ext_k (by rw [HN.out.1,HN.out.2,HNM.out]) (fun j j1 j2=>HR.out.1 j j1 j2 (by have:=HN.out.1;omega))) HE.out.2.2.2)
        subst hDt
        go_wp2_with fail
        go_ret
        exact ⟨rfl,HB0.out.trans (HR.out.2.mono HB0.out.size)⟩
     ·have HNM:=zH hNM
      have hNM2:¬ (N:Int) = M:=by omega
      have hDf:D = false:=by rw [← HD.out];exact decide_eq_false (fun q=>hNM (by rw [← HN.out.1,← HN.out.2,q]))
      subst hDf
      clear hNM
      go_wp2_with fail
      all_goals
       go_ret
       exact ⟨rfl,HB0.out⟩
    ·have he_t:(a.elem == b.elem) = false:=by simpa using he
     have hDf:D = false:=by rw [← HD.out];exact decide_eq_false (fun q=>he (by rw [q]))
     subst hDf
     clear he
     go_wp2_with fail
     all_goals
      go_ret
      exact ⟨rfl,HB0.out⟩
   ·have htx_t:(a.text.toList == b.text.toList) = false:=by rw [teq];exact decide_eq_false htx
    have hDf:D = false:=by rw [← HD.out];exact decide_eq_false (fun q=>htx (by rw [q]))
    subst hDf
    clear htx
    go_wp2_with fail
    all_goals
     go_ret
     exact ⟨rfl,HB0.out⟩
  ·have hn_t:(a.num == b.num) = false:=by simpa using hn
   have hDf:D = false:=by rw [← HD.out];exact decide_eq_false (fun q=>hn (by rw [q]))
   subst hDf
   clear hn
   go_wp2_with fail
   all_goals
    go_ret
    exact ⟨rfl,HB0.out⟩
 ·have hk_t:(a.kind == b.kind) = false:=by simpa using hk
  have hDf:D = false:=by rw [← HD.out];exact decide_eq_false (fun q=>hk (by rw [q]))
  subst hDf
  clear hk
  go_wp2_with fail
  all_goals
   go_ret
   exact ⟨rfl,HB0.out⟩

end Go.Proofs.YtnnnfhobbnjmfaaGreatDoor

namespace Go.Proofs
open Go.Shelf
def Tryz.lays128_ren:Go.Shelf.Ren:=⟨fun|128=>144|n=>n,fun|51=>150|3=>3|4=>4|46=>119|5=>5|9=>9|n=>n,fun|n=>n⟩
theorem Tryz.lays128:Go.Proofs.Lays.n128 Tryz.prog Tryz.lays128_ren:={
 mixed:=by kernel_rfl
 f128:=Tryz.func144.trans (congrArg some (by kernel_rfl))
 t3:=Tryz.underlying3
 a3:=Tryz.isAgg3
 z3:=Tryz.sizeOf3
 v3:=Tryz.zeroValue3
 t4:=Tryz.underlying4
 a4:=Tryz.isAgg4
 z4:=Tryz.sizeOf4
 v4:=Tryz.zeroValue4
 t5:=Tryz.underlying5
 a5:=Tryz.isAgg5
 z5:=Tryz.sizeOf5
 v5:=Tryz.zeroValue5
 t9:=Tryz.underlying9
 a9:=Tryz.isAgg9
 z9:=Tryz.sizeOf9
 v9:=Tryz.zeroValue9
 t46:=Tryz.underlying119
 a46:=Tryz.isAgg119
 z46:=Tryz.sizeOf119
 v46:=Tryz.zeroValue119
 t51:=Tryz.underlying150
 a51:=Tryz.isAgg150
 z51:=Tryz.sizeOf150
 v51:=Tryz.zeroValue150 }
theorem Tryz.bits_Len32 (x:Int) (w:World) (h0:0 ≤ x) (h1:x ≤ 4294967295) :
  Calls Tryz.prog 144 #[.int .u32 x] w fun e w'=>e = .returned (.int .i64 (Lib.bitLen x.toNat))∧w' = w:=Any.bits_Len32 Tryz.lays128 x w h0 h1
def Tryz.lays125_ren:Go.Shelf.Ren:=⟨fun|125=>121|128=>144|129=>145|n=>n,fun|46=>119|3=>3|51=>150|53=>22|4=>4|5=>5|9=>9|n=>n,fun|n=>n⟩
theorem Tryz.lays125:Go.Proofs.Lays.n125 Tryz.prog Tryz.lays125_ren:={
 mixed:=by kernel_rfl
 f125:=Tryz.func121.trans (congrArg some (by kernel_rfl))
 f128:=Tryz.func144.trans (congrArg some (by kernel_rfl))
 f129:=Tryz.func145.trans (congrArg some (by kernel_rfl))
 t3:=Tryz.underlying3
 a3:=Tryz.isAgg3
 z3:=Tryz.sizeOf3
 v3:=Tryz.zeroValue3
 t4:=Tryz.underlying4
 a4:=Tryz.isAgg4
 z4:=Tryz.sizeOf4
 v4:=Tryz.zeroValue4
 t5:=Tryz.underlying5
 a5:=Tryz.isAgg5
 z5:=Tryz.sizeOf5
 v5:=Tryz.zeroValue5
 t9:=Tryz.underlying9
 a9:=Tryz.isAgg9
 z9:=Tryz.sizeOf9
 v9:=Tryz.zeroValue9
 t46:=Tryz.underlying119
 a46:=Tryz.isAgg119
 z46:=Tryz.sizeOf119
 v46:=Tryz.zeroValue119
 t51:=Tryz.underlying150
 a51:=Tryz.isAgg150
 z51:=Tryz.sizeOf150
 v51:=Tryz.zeroValue150
 t53:=Tryz.underlying22
 a53:=Tryz.isAgg22
 z53:=Tryz.sizeOf22
 v53:=Tryz.zeroValue22 }
theorem Tryz.bits_Len (x:Int) (w:World) (h0:0 ≤ x) (h1:x ≤ 18446744073709551615) :
  Calls Tryz.prog 121 #[.int .u64 x] w fun e w'=>e = .returned (.int .i64 (Lib.bitLen x.toNat))∧w' = w:=Any.bits_Len Tryz.lays125 x w h0 h1
def Tryz.lays213_ren:Go.Shelf.Ren:=⟨fun|213=>148|265=>155|n=>n,fun|9=>9|3=>3|n=>n,fun|n=>n⟩
theorem Tryz.lays213:Go.Proofs.Lays.n213 Tryz.prog Tryz.lays213_ren:={
 mixed:=by kernel_rfl
 f213:=Tryz.func148.trans (congrArg some (by kernel_rfl))
 f265:=Tryz.func155.trans (congrArg some (by kernel_rfl))
 t3:=Tryz.underlying3
 a3:=Tryz.isAgg3
 z3:=Tryz.sizeOf3
 v3:=Tryz.zeroValue3
 t9:=Tryz.underlying9
 a9:=Tryz.isAgg9
 z9:=Tryz.sizeOf9
 v9:=Tryz.zeroValue9 }
open Go.RowKit Go.Proofs.Tryz in
theorem Tryz.bytealg_CompareString (a b:ByteArray) (w:World) :
  Calls Tryz.prog 148 #[.string a,.string b] w fun e w'=>e = .returned (.int .i64 (Lib.compareBytes a.data.toList b.data.toList))∧w' = w:=Any.bytealg_CompareString Tryz.lays213 a b w
def Tryz.lays106_ren:Go.Shelf.Ren:=⟨fun|106=>125|213=>148|265=>155|n=>n,fun|9=>9|3=>3|n=>n,fun|n=>n⟩
theorem Tryz.lays106:Go.Proofs.Lays.n106 Tryz.prog Tryz.lays106_ren:={
 mixed:=by kernel_rfl
 f106:=Tryz.func125.trans (congrArg some (by kernel_rfl))
 f213:=Tryz.func148.trans (congrArg some (by kernel_rfl))
 f265:=Tryz.func155.trans (congrArg some (by kernel_rfl))
 t3:=Tryz.underlying3
 a3:=Tryz.isAgg3
 z3:=Tryz.sizeOf3
 v3:=Tryz.zeroValue3
 t9:=Tryz.underlying9
 a9:=Tryz.isAgg9
 z9:=Tryz.sizeOf9
 v9:=Tryz.zeroValue9 }
open Go.RowKit Go.Proofs.Tryz in
theorem Tryz.strings_Compare (a b:ByteArray) (w:World) :
  Calls Tryz.prog 125 #[.string a,.string b] w fun e w'=>e = .returned (.int .i64 (Lib.compareBytes a.data.toList b.data.toList))∧w' = w:=Any.strings_Compare Tryz.lays106 a b w
def Tryz.lays215_ren:Go.Shelf.Ren:=⟨fun|215=>146|n=>n,fun|3=>3|4=>4|n=>n,fun|n=>n⟩
theorem Tryz.lays215:Go.Proofs.Lays.n215 Tryz.prog Tryz.lays215_ren:={
 mixed:=by kernel_rfl
 f215:=Tryz.func146.trans (congrArg some (by kernel_rfl))
 t3:=Tryz.underlying3
 a3:=Tryz.isAgg3
 z3:=Tryz.sizeOf3
 v3:=Tryz.zeroValue3
 t4:=Tryz.underlying4
 a4:=Tryz.isAgg4
 z4:=Tryz.sizeOf4
 v4:=Tryz.zeroValue4 }
open Go.RowKit Go.Proofs.Tryz in
theorem Tryz.cmp_isNaN_int (x:Int) (w:World) :
  Calls Tryz.prog 146 #[.int .i64 x] w fun e w'=>e = .returned (.bool false)∧w' = w:=Any.cmp_isNaN_int Tryz.lays215 x w
def Tryz.lays122_ren:Go.Shelf.Ren:=⟨fun|122=>123|215=>146|n=>n,fun|3=>3|4=>4|n=>n,fun|n=>n⟩
theorem Tryz.lays122:Go.Proofs.Lays.n122 Tryz.prog Tryz.lays122_ren:={
 mixed:=by kernel_rfl
 f122:=Tryz.func123.trans (congrArg some (by kernel_rfl))
 f215:=Tryz.func146.trans (congrArg some (by kernel_rfl))
 t3:=Tryz.underlying3
 a3:=Tryz.isAgg3
 z3:=Tryz.sizeOf3
 v3:=Tryz.zeroValue3
 t4:=Tryz.underlying4
 a4:=Tryz.isAgg4
 z4:=Tryz.sizeOf4
 v4:=Tryz.zeroValue4 }
open Go.RowKit Go.Proofs.Tryz in
theorem Tryz.cmp_Compare_int (x y:Int) (w:World) :
  Calls Tryz.prog 123 #[.int .i64 x,.int .i64 y] w fun e w'=>e = .returned (.int .i64 (Lib.compareInt x y))∧w' = w:=Any.cmp_Compare_int Tryz.lays122 x y w
def Tryz.lays129_ren:Go.Shelf.Ren:=⟨fun|129=>145|n=>n,fun|53=>22|3=>3|4=>4|46=>119|5=>5|9=>9|n=>n,fun|n=>n⟩
theorem Tryz.lays129:Go.Proofs.Lays.n129 Tryz.prog Tryz.lays129_ren:={
 mixed:=by kernel_rfl
 f129:=Tryz.func145.trans (congrArg some (by kernel_rfl))
 t3:=Tryz.underlying3
 a3:=Tryz.isAgg3
 z3:=Tryz.sizeOf3
 v3:=Tryz.zeroValue3
 t4:=Tryz.underlying4
 a4:=Tryz.isAgg4
 z4:=Tryz.sizeOf4
 v4:=Tryz.zeroValue4
 t5:=Tryz.underlying5
 a5:=Tryz.isAgg5
 z5:=Tryz.sizeOf5
 v5:=Tryz.zeroValue5
 t9:=Tryz.underlying9
 a9:=Tryz.isAgg9
 z9:=Tryz.sizeOf9
 v9:=Tryz.zeroValue9
 t46:=Tryz.underlying119
 a46:=Tryz.isAgg119
 z46:=Tryz.sizeOf119
 v46:=Tryz.zeroValue119
 t53:=Tryz.underlying22
 a53:=Tryz.isAgg22
 z53:=Tryz.sizeOf22
 v53:=Tryz.zeroValue22 }
theorem Tryz.bits_Len64 (x:Int) (w:World) (h0:0 ≤ x) (h1:x ≤ 18446744073709551615) :
  Calls Tryz.prog 145 #[.int .u64 x] w fun e w'=>e = .returned (.int .i64 (Lib.bitLen x.toNat))∧w' = w:=Any.bits_Len64 Tryz.lays129 x w h0 h1
def Tryz.lays260_ren:Go.Shelf.Ren:=⟨fun|260=>135|n=>n,fun|9=>9|21=>21|3=>3|4=>4|5=>5|119=>153|0=>0|46=>119|139=>156|138=>155|n=>n,fun|3=>0|4=>1|n=>n⟩
theorem Tryz.lays260:Go.Proofs.Lays.n260 Tryz.prog Tryz.lays260_ren:={
 mixed:=by kernel_rfl
 f260:=Tryz.func135.trans (congrArg some (by kernel_rfl))
 t0:=Tryz.underlying0
 a0:=Tryz.isAgg0
 z0:=Tryz.sizeOf0
 v0:=Tryz.zeroValue0
 t3:=Tryz.underlying3
 a3:=Tryz.isAgg3
 z3:=Tryz.sizeOf3
 v3:=Tryz.zeroValue3
 t4:=Tryz.underlying4
 a4:=Tryz.isAgg4
 z4:=Tryz.sizeOf4
 v4:=Tryz.zeroValue4
 t5:=Tryz.underlying5
 a5:=Tryz.isAgg5
 z5:=Tryz.sizeOf5
 v5:=Tryz.zeroValue5
 t9:=Tryz.underlying9
 a9:=Tryz.isAgg9
 z9:=Tryz.sizeOf9
 v9:=Tryz.zeroValue9
 t21:=Tryz.underlying21
 a21:=Tryz.isAgg21
 z21:=Tryz.sizeOf21
 v21:=Tryz.zeroValue21
 t46:=Tryz.underlying119
 a46:=Tryz.isAgg119
 z46:=Tryz.sizeOf119
 v46:=Tryz.zeroValue119
 t119:=Tryz.underlying153
 a119:=Tryz.isAgg153
 z119:=Tryz.sizeOf153
 t138:=Tryz.underlying155
 a138:=Tryz.isAgg155
 z138:=Tryz.sizeOf155
 v138:=Tryz.zeroValue155
 t139:=Tryz.underlying156
 a139:=Tryz.isAgg156
 z139:=Tryz.sizeOf156
 v139:=Tryz.zeroValue156
 g3:=by kernel_rfl
 g4:=by kernel_rfl }
open Go.RowKit Go.Proofs.Tryz Go.Lib in
theorem Tryz.utf8_decodeRuneInStringSlow (s:ByteArray) (w:World) (hT:Lib.Utf8Tabs 0 1 w) :
  Calls Tryz.prog 135 #[.string s] w fun e w'=>e = .returned (.tuple #[.int .i32 (Lib.decodeGo s).1,.int .i64 (Lib.decodeGo s).2])∧Below w.heap.size w w':=Any.utf8_decodeRuneInStringSlow Tryz.lays260 s w hT
def Tryz.lays197_ren:Go.Shelf.Ren:=⟨fun|197=>119|260=>135|n=>n,fun|9=>9|21=>21|3=>3|4=>4|5=>5|105=>125|119=>153|0=>0|46=>119|139=>156|138=>155|n=>n,fun|3=>0|4=>1|n=>n⟩
theorem Tryz.lays197:Go.Proofs.Lays.n197 Tryz.prog Tryz.lays197_ren:={
 mixed:=by kernel_rfl
 f197:=Tryz.func119.trans (congrArg some (by kernel_rfl))
 f260:=Tryz.func135.trans (congrArg some (by kernel_rfl))
 t0:=Tryz.underlying0
 a0:=Tryz.isAgg0
 z0:=Tryz.sizeOf0
 v0:=Tryz.zeroValue0
 t3:=Tryz.underlying3
 a3:=Tryz.isAgg3
 z3:=Tryz.sizeOf3
 v3:=Tryz.zeroValue3
 t4:=Tryz.underlying4
 a4:=Tryz.isAgg4
 z4:=Tryz.sizeOf4
 v4:=Tryz.zeroValue4
 t5:=Tryz.underlying5
 a5:=Tryz.isAgg5
 z5:=Tryz.sizeOf5
 v5:=Tryz.zeroValue5
 t9:=Tryz.underlying9
 a9:=Tryz.isAgg9
 z9:=Tryz.sizeOf9
 v9:=Tryz.zeroValue9
 t21:=Tryz.underlying21
 a21:=Tryz.isAgg21
 z21:=Tryz.sizeOf21
 v21:=Tryz.zeroValue21
 t46:=Tryz.underlying119
 a46:=Tryz.isAgg119
 z46:=Tryz.sizeOf119
 v46:=Tryz.zeroValue119
 t105:=Tryz.underlying125
 a105:=Tryz.isAgg125
 z105:=Tryz.sizeOf125
 v105:=Tryz.zeroValue125
 t119:=Tryz.underlying153
 a119:=Tryz.isAgg153
 z119:=Tryz.sizeOf153
 t138:=Tryz.underlying155
 a138:=Tryz.isAgg155
 z138:=Tryz.sizeOf155
 v138:=Tryz.zeroValue155
 t139:=Tryz.underlying156
 a139:=Tryz.isAgg156
 z139:=Tryz.sizeOf156
 v139:=Tryz.zeroValue156
 g3:=by kernel_rfl
 g4:=by kernel_rfl }
open Go.RowKit Go.Proofs.Tryz Go.Lib in
theorem Tryz.utf8_DecodeRuneInString (s:ByteArray) (w:World) (hT:Lib.Utf8Tabs 0 1 w) :
  Calls Tryz.prog 119 #[.string s] w fun e w'=>e = .returned (.tuple #[.int .i32 (Lib.decodeGo s).1,.int .i64 (Lib.decodeGo s).2])∧Below w.heap.size w w':=Any.utf8_DecodeRuneInString Tryz.lays197 s w hT
def Tryz.laysNm237_ren:Go.Shelf.Ren:=⟨fun|37=>146|n=>n,fun|3=>3|4=>4|n=>n,fun|n=>n⟩
theorem Tryz.laysNm237:Go.Proofs.Lays2.n37 Tryz.prog Tryz.laysNm237_ren:={
 mixed:=by kernel_rfl
 f37:=Tryz.func146.trans (congrArg some (by kernel_rfl))
 t3:=Tryz.underlying3
 a3:=Tryz.isAgg3
 z3:=Tryz.sizeOf3
 v3:=Tryz.zeroValue3
 t4:=Tryz.underlying4
 a4:=Tryz.isAgg4
 z4:=Tryz.sizeOf4
 v4:=Tryz.zeroValue4 }
open Go.RowKit Go.Proofs.Tryz Go.Lib in
theorem Tryz.cmp_isNaN_int2 (x:Int) (w:World) :
  Calls Tryz.prog 146 #[.int .i64 x] w fun e w'=>e = .returned (.bool false)∧w' = w:=Any.cmp_isNaN_int2 Tryz.laysNm237 x w
end Go.Proofs

namespace Go.Proofs.YtnnnfhobbnjmfaaGreatDoor
open Go.RowKit Go.Proofs.Tryz
set_option linter.all false
set_option maxHeartbeats 40000000
set_option maxRecDepth 20000

theorem isNaN_int (a:Int) (w:World):Calls prog 146 #[.int .i64 a] w fun e w'=>e = .returned (.bool false)∧w' = w:=by
 go_enter func146,ntmps146
 go_wp2_with fail
 go_ret
 exact ⟨by simp,rfl⟩
theorem compare_int (a b:Int) (w:World):Calls prog 123 #[.int .i64 a,.int .i64 b] w fun e w'=>e = .returned (.int .i64 (sgnZ a b))∧w' = w:=by
 by_cases h1:a < b
 ·rw [show sgnZ a b = -1 from by simp [sgnZ,h1]]
  have n1:=isNaN_int a w
  have n2:=isNaN_int b w
  go_enter func123,ntmps123
  go_wp2_with fail
  refine n1.mono ?_
  rintro e w' ⟨rfl,rfl⟩
  go_wp2_with fail
  refine n2.mono ?_
  rintro e w' ⟨rfl,rfl⟩
  go_wp2_with fail
  go_ret
  exact ⟨rfl,rfl⟩
 by_cases h2:b < a
 ·rw [show sgnZ a b = 1 from by simp [sgnZ,h1,h2]]
  have n1:=isNaN_int a w
  have n2:=isNaN_int b w
  go_enter func123,ntmps123
  go_wp2_with fail
  refine n1.mono ?_
  rintro e w' ⟨rfl,rfl⟩
  go_wp2_with fail
  refine n2.mono ?_
  rintro e w' ⟨rfl,rfl⟩
  go_wp2_with fail
  go_ret
  exact ⟨rfl,rfl⟩
 rw [show sgnZ a b = 0 from by simp [sgnZ,h1,h2]]
 have n1:=isNaN_int a w
 have n2:=isNaN_int b w
 go_enter func123,ntmps123
 go_wp2_with fail
 refine n1.mono ?_
 rintro e w' ⟨rfl,rfl⟩
 go_wp2_with fail
 refine n2.mono ?_
 rintro e w' ⟨rfl,rfl⟩
 go_wp2_with fail
 go_ret
 exact ⟨rfl,rfl⟩
theorem isNaN_uint64 (a:Int) (w:World):Calls prog 147 #[.int .u64 a] w fun e w'=>e = .returned (.bool false)∧w' = w:=by
 go_enter func147,ntmps147
 go_wp2_with fail
 go_ret
 exact ⟨by simp,rfl⟩
theorem compare_uint64 (a b:Int) (w:World):Calls prog 124 #[.int .u64 a,.int .u64 b] w fun e w'=>e = .returned (.int .i64 (sgnZ a b))∧w' = w:=by
 by_cases h1:a < b
 ·rw [show sgnZ a b = -1 from by simp [sgnZ,h1]]
  have n1:=isNaN_uint64 a w
  have n2:=isNaN_uint64 b w
  go_enter func124,ntmps124
  go_wp2_with fail
  refine n1.mono ?_
  rintro e w' ⟨rfl,rfl⟩
  go_wp2_with fail
  refine n2.mono ?_
  rintro e w' ⟨rfl,rfl⟩
  go_wp2_with fail
  go_ret
  exact ⟨rfl,rfl⟩
 by_cases h2:b < a
 ·rw [show sgnZ a b = 1 from by simp [sgnZ,h1,h2]]
  have n1:=isNaN_uint64 a w
  have n2:=isNaN_uint64 b w
  go_enter func124,ntmps124
  go_wp2_with fail
  refine n1.mono ?_
  rintro e w' ⟨rfl,rfl⟩
  go_wp2_with fail
  refine n2.mono ?_
  rintro e w' ⟨rfl,rfl⟩
  go_wp2_with fail
  go_ret
  exact ⟨rfl,rfl⟩
 rw [show sgnZ a b = 0 from by simp [sgnZ,h1,h2]]
 have n1:=isNaN_uint64 a w
 have n2:=isNaN_uint64 b w
 go_enter func124,ntmps124
 go_wp2_with fail
 refine n1.mono ?_
 rintro e w' ⟨rfl,rfl⟩
 go_wp2_with fail
 refine n2.mono ?_
 rintro e w' ⟨rfl,rfl⟩
 go_wp2_with fail
 go_ret
 exact ⟨rfl,rfl⟩
theorem strcmp_any (a b:ByteArray) (w:World):Calls prog 125 #[.string a,.string b] w fun e w'=>e = .returned (.int .i64 (cmpT a b))∧w' = w:=Tryz.strings_Compare a b w

def orL:List Int -> Int
 | []=>0
 | x :: r=>thenZ x (orL r)
theorem orL_drop {l:List Int} {k:Nat} (h:k < l.length):orL (l.drop k) = thenZ l[k] (orL (l.drop (k+1))):=by rw [List.drop_eq_getElem_cons h,orL]

theorem or_any (w:World) (g c N:Nat) (l:List Int) (hN:l.length = N) (hc:N <= c) (hc2:c <= 1000) (h:∀ k (hk:k < l.length),w.cell? ⟨g,k,none⟩ = some (.int .i64 l[k])) :
  Calls prog 122 #[.slice (some ⟨g,0,none⟩) N c] w fun e w'=>e = .returned (.int .i64 (orL l))∧w' = w:=by
 obtain ⟨D,hD⟩:∃ D,orL l = D:=⟨_,rfl⟩
 rw [hD]
 have HD:=zH (show orL (l.drop 0) = D by rw [List.drop_zero,hD])
 have HN:=zH hN
 have HC:=zH h
 clear hN hD h
 go_enter func122,ntmps122
 go_wp2_with fail
 go_loopw [8] (fun v wr=>∃ k:Nat,k <= N∧v = .int .i64 k∧wr = w∧orL (l.drop k) = D) (fun v _=>N - (intOf v).toNat)
 case atStart=>exact ⟨0,Nat.zero_le _,rfl,rfl,HD.out⟩
 obtain ⟨k,hk,rfl,rfl,hr⟩:=hrel
 have HR:=zH hr
 clear hr
 by_cases hkN:(k:Int) < N
 ·have hkl:k < l.length:=by rw [HN.out];omega
  have c0:=HC.out k hkl
  have hs:=orL_drop hkl
  rw [HR.out] at hs
  generalize l[k] = y at c0 hs
  by_cases hy:y = 0
  ·have HS:=zH (show orL (l.drop (k+1)) = D by rw [hs,hy];simp [thenZ])
   have hyt:(y == 0) = true:=by simpa using hy
   clear hs hy
   go_wp2_with fail
   go_roundw
   case rel=>exact ⟨k+1,by omega,by go_num,by first|rfl|trivial,HS.out⟩
   case measure=>simp [intOf];omega
  ·have HS:=zH (show D = y by rw [hs];simp [thenZ,hy])
   have hyt:(y == 0) = false:=by simpa using hy
   clear hs
   go_wp2_with fail
   go_ret
   exact ⟨by rw [HS.out];rfl,by first|rfl|trivial⟩
 have HS:=zH (show D = 0 by rw [← HR.out,List.drop_eq_nil_of_le (by rw [HN.out];omega)];rfl)
 go_wp2_with fail
 go_ret
 exact ⟨by rw [HS.out];rfl,by first|rfl|trivial⟩

theorem ordV_self (a:V):ordV a a = 0:=ordV_zero.2 rfl
theorem ordL_same:∀ (p r s:List V),ordL (p ++ r) (p ++ s) = ordL r s
 | [],_,_=>rfl
 | a :: p,r,s=>by rw [List.cons_append,List.cons_append,ordL,ordV_self,ordL_same p];simp [thenZ]
theorem ordL_take {a b:List V} {k:Nat} (h:a.take k = b.take k):ordL a b = ordL (a.drop k) (b.drop k):=by
 have e1:=List.take_append_drop k a
 have e2:=List.take_append_drop k b
 rw [← h] at e2
 rw [← e1,← e2,ordL_same,e1,e2]
theorem ordL_at {a b:List V} {k:Nat} (h:a.take k = b.take k) (ha:k < a.length) (hb:k < b.length):ordL a b = thenZ (ordV a[k] b[k]) (ordL (a.drop (k+1)) (b.drop (k+1))):=by
 rw [ordL_take h,List.drop_eq_getElem_cons ha,List.drop_eq_getElem_cons hb,ordL]
theorem take_next {a b:List V} {k:Nat} (h:a.take k = b.take k) (ha:k < a.length) (hb:k < b.length) (e:a[k] = b[k]):a.take (k+1) = b.take (k+1):=by
 rw [List.take_add_one,List.take_add_one,h,List.getElem?_eq_getElem ha,List.getElem?_eq_getElem hb,e]
theorem ordL_longer {a b:List V} {k:Nat} (h:a.take k = b.take k) (ha:k < a.length) (hb:b.length <= k):ordL a b = 1:=by
 rw [ordL_take h,List.drop_eq_getElem_cons ha,List.drop_eq_nil_of_le hb,ordL]
theorem ordL_end {a b:List V} {k:Nat} (h:a.take k = b.take k) (ha:a.length <= k) (hk:k <= a.length):ordL a b = if a.length < b.length then -1 else (if b.length < a.length then 1 else 0):=by
 have hka:k = a.length:=by omega
 subst hka
 rw [List.take_length] at h
 have hl:a.length <= b.length:=by have:=congrArg List.length h;rw [List.length_take] at this;omega
 rw [ordL_take (k:=a.length) (by rw [List.take_length];exact h),List.drop_length]
 by_cases hlt:a.length < b.length
 ·rw [if_pos hlt,List.drop_eq_getElem_cons hlt,ordL]
 ·rw [if_neg hlt,if_neg (by omega),List.drop_eq_nil_of_le (by omega),ordL]

theorem or_cells {w:World} {T:Nat} (l:List Int):∀ k (hk:k < l.length),((w.alloc (.cells (l.map fun z=>Value.int .i64 z).toArray T)).drew).cell? ⟨w.heap.size,k,none⟩ = some (.int .i64 l[k]):=fun k hk=>by
 show (w.alloc _).cell? _ = _
 rw [cell_of_row _ _ _ _ _ _ (zN _ _)]
 simp [List.getElem?_eq_getElem hk]
theorem or_cells' {w:World} {T:Nat} (l:List Int):∀ k (hk:k < l.length),(w.alloc (.cells (l.map fun z=>Value.int .i64 z).toArray T)).cell? ⟨w.heap.size,k,none⟩ = some (.int .i64 l[k]):=fun k hk=>by
 rw [cell_of_row _ _ _ _ _ _ (zN _ _)]
 simp [List.getElem?_eq_getElem hk]
theorem orL_pos {z1 z2 z3 r:Int} (h:orL [z1,z2,z3] ≠ 0):thenZ z1 (thenZ z2 (thenZ z3 r)) = orL [z1,z2,z3]:=by
 simp only [orL,thenZ] at *
 by_cases h1:z1 = 0 <;> by_cases h2:z2 = 0 <;> by_cases h3:z3 = 0 <;> simp_all
theorem orL_zero {z1 z2 z3 r:Int} (h:orL [z1,z2,z3] = 0):thenZ z1 (thenZ z2 (thenZ z3 r)) = r:=by
 simp only [orL,thenZ] at *
 by_cases h1:z1 = 0 <;> by_cases h2:z2 = 0 <;> by_cases h3:z3 = 0 <;> simp_all

def OrdOn (a:V):Prop:=∀ (w:World) (s:Value) (b:V) (t:Value),VIn w a s -> VIn w b t →
  Calls prog 103 #[.agg #[.int .i64 a.kind,.int .u64 a.num,.string a.text,s,.int .i64 a.elem],.agg #[.int .i64 b.kind,.int .u64 b.num,.string b.text,t,.int .i64 b.elem]] w fun e w'=>e = .returned (.int .i64 (ordV a b))∧Below w.heap.size w w'

theorem cmpfunc_any (a:V) (ih:∀ x ∈ a.list,OrdOn x) (w:World) (s:Value) (b:V) (t:Value) (h:VIn w a s) (hb:VIn w b t) :
  Calls prog 126 #[s,t,.func (.func 103) #[] #[]] w fun e w'=>e = .returned (.int .i64 (ordL a.list b.list))∧Below w.heap.size w w':=by
 obtain ⟨p,c,hs,h1,h2,h3⟩:=h.slice
 obtain ⟨q,d,ht,k1,k2,k3⟩:=hb.slice
 obtain ⟨N,hN⟩:∃ N,a.list.length = N:=⟨_,rfl⟩
 obtain ⟨M,hM⟩:∃ M,b.list.length = M:=⟨_,rfl⟩
 rw [hN] at hs h1 h3
 rw [hM] at ht k1 k3
 subst hs ht
 unfold maxLen at h2 k2
 obtain ⟨D,hD⟩:∃ D,ordL a.list b.list = D:=⟨_,rfl⟩
 rw [hD]
 have HD:=zH hD
 clear hD
 have HI:=zH ih
 have HN:=zH (And.intro hN hM)
 have HV:=zH (And.intro h hb)
 clear ih h hb hN hM
 go_enter func126,ntmps126
 go_wp2_with fail
 go_loopw [13] (fun v5 wr=>∃ k:Nat,k <= N∧v5 = .int .i64 k∧a.list.take k = b.list.take k∧Below w.heap.size w wr) (fun v5 _=>N - (intOf v5).toNat)
 case atStart=>exact ⟨0,Nat.zero_le _,rfl,by rw [List.take_zero,List.take_zero],Below.refl _ _⟩
 obtain ⟨k,hk',rfl,hsame,hbw⟩:=hrel
 have HR:=zH (And.intro hsame hbw)
 clear hsame hbw
 by_cases hkN:(k:Int) < N
 ·have ka:k < a.list.length:=by rw [HN.out.1];omega
  obtain ⟨b1,o1,rfl⟩:=h3 (by omega)
  obtain ⟨ta,hta,hia⟩:=(HV.out.1.blw HR.out.2).part rfl ka
  obtain ⟨pa,ca,hsa,_⟩:=hia.slice
  subst hsa
  obtain ⟨c0,c1,c2,c3,c4⟩:=part_cells hta
  obtain ⟨ya,hya⟩:∃ ya,a.list[k] = ya:=⟨_,rfl⟩
  have HYA:=zH hya
  have HIK:=zH (HI.out _ (List.getElem_mem ka))
  rw [hya] at c0 c1 c2 c3 c4 hia HIK
  obtain ⟨na,hna⟩:∃ na,ya.list.length = na:=⟨_,rfl⟩
  rw [hna] at c3 hia
  have HP:=zH hia
  clear hta hia hya hna
  go_upto_region 4 with (refine stV (.tmp 8) (.tmp 17) rfl rfl rfl rfl rfl (zN wr _) rfl ?_)
  refine layW wr ?_
  intro w1 hb_w1 ox
  obtain ⟨x,hx_x⟩:∃ x,wr.heap.size = x:=⟨_,rfl⟩
  rw [hx_x] at ox ⊢
  clear hx_x
  have HB1:=zH (HR.out.2.trans (hb_w1.mono HR.out.2.size))
  have HP1:=zH (HP.out.blw hb_w1)
  have HOX:=zH ox
  clear hb_w1 ox c0 c1 c2 c3 c4
  by_cases hkM:(k:Int) < M
  ·have kb:k < b.list.length:=by rw [HN.out.2];omega
   obtain ⟨b2,o2,rfl⟩:=k3 (by omega)
   obtain ⟨tb,htb,hib⟩:=(HV.out.2.blw HB1.out).part rfl kb
   obtain ⟨pb,cb,hsb,_⟩:=hib.slice
   subst hsb
   obtain ⟨d0,d1,d2,d3,d4⟩:=part_cells htb
   obtain ⟨yb,hyb⟩:∃ yb,b.list[k] = yb:=⟨_,rfl⟩
   have HYB:=zH hyb
   rw [hyb] at d0 d1 d2 d3 d4 hib
   obtain ⟨nb,hnb⟩:∃ nb,yb.list.length = nb:=⟨_,rfl⟩
   rw [hnb] at d3 hib
   have HPB:=zH hib
   clear htb hib hyb hnb
   go_upto_region 7 with (refine stV (.tmp 9) (.tmp 25) rfl rfl rfl rfl rfl (zN w1 _) rfl ?_)
   refine layW w1 ?_
   intro w2 hb_w2 oy
   obtain ⟨y,hx_y⟩:∃ x,w1.heap.size = x:=⟨_,rfl⟩
   rw [hx_y] at oy ⊢
   clear hx_y
   have hox:=(hb_w2.block x (Array.getElem?_eq_some_iff.1 HOX.out).1).trans HOX.out
   obtain ⟨x0,x1,x2,x3,x4⟩:=c5 hox
   obtain ⟨y0,y1,y2,y3,y4⟩:=c5 oy
   have HB2:=zH (HB1.out.trans (hb_w2.mono HB1.out.size))
   have hc:=HIK.out w2 _ yb _ (HP1.out.blw hb_w2) (HPB.out.blw hb_w2)
   have hat:=ordL_at HR.out.1 ka kb
   rw [HD.out,HYA.out,HYB.out] at hat
   have hz:ordV ya yb = 0 -> a.list.take (k+1) = b.list.take (k+1):=fun q=>take_next HR.out.1 ka kb (by rw [HYA.out,HYB.out];exact ordV_zero.1 q)
   obtain ⟨z,hzz⟩:∃ z,ordV ya yb = z:=⟨_,rfl⟩
   rw [hzz] at hc hat hz
   have HZ:=zH (And.intro hat hz)
   clear hb_w2 hox oy d0 d1 d2 d3 d4 hat hz hzz
   have HC:=zH hc
   clear hc
   go_wp2_with fail
   refine HC.out.mono ?_
   rintro e w3 ⟨rfl,hb3⟩
   have HB3:=zH (HB2.out.trans (hb3.mono HB2.out.size))
   clear hb3 x0 x1 x2 x3 x4 y0 y1 y2 y3 y4
   by_cases hz0:z = 0
   ·have hzt:(z == 0) = true:=by simpa using hz0
    have HZ2:=zH (HZ.out.2 hz0)
    subst hz0
    go_wp2_with fail
    go_roundw
    case rel=>exact ⟨k+1,by omega,by go_num,HZ2.out,HB3.out⟩
    case measure=>simp [intOf];omega
   ·have hzt:(z == 0) = false:=by simpa using hz0
    have HDZ:=zH (show D = z by rw [HZ.out.1];simp [thenZ,hz0])
    go_wp2_with fail
    go_ret
    exact ⟨by rw [HDZ.out];rfl,HB3.out⟩
  ·have HD1:=zH (show D = 1 by rw [← HD.out];exact ordL_longer HR.out.1 ka (by rw [HN.out.2];omega))
   go_wp2_with fail
   go_ret
   exact ⟨by rw [HD1.out];rfl,HB1.out⟩
 have hkN2:k = N:=by omega
 have hend:=ordL_end HR.out.1 (by rw [HN.out.1];omega) (by rw [HN.out.1];omega)
 rw [HD.out,HN.out.1,HN.out.2] at hend
 have hMN:¬ M < N:=by
  intro q
  have:=congrArg List.length HR.out.1
  rw [List.length_take,List.length_take,HN.out.1,HN.out.2] at this
  omega
 by_cases hlt:(N:Int) < M
 ·have HE:=zH (show D = -1 by rw [hend,if_pos (by omega)])
  clear hend hkN2 hMN
  go_wp2_with fail
  go_ret
  exact ⟨by rw [HE.out];rfl,HR.out.2⟩
 have HE:=zH (show D = 0 by rw [hend,if_neg (by omega),if_neg hMN])
 clear hend hkN2 hMN
 go_wp2_with fail
 go_ret
 exact ⟨by rw [HE.out];rfl,HR.out.2⟩
theorem order_on:∀ a:V,OrdOn a:=by
 refine V.ind (fun a ih w s b t h hb=>?_)
 have hef:=cmpfunc_any a ih
 obtain ⟨p,c,hs,h1,h2,h3⟩:=h.slice
 obtain ⟨q,d,ht,k1,k2,k3⟩:=hb.slice
 obtain ⟨N,hN⟩:∃ N,a.list.length = N:=⟨_,rfl⟩
 obtain ⟨M,hM⟩:∃ M,b.list.length = M:=⟨_,rfl⟩
 rw [hN] at hs h1 h3
 rw [hM] at ht k1 k3
 subst hs ht
 unfold maxLen at h2 k2
 obtain ⟨D,hD⟩:∃ D,ordV a b = D:=⟨_,rfl⟩
 rw [hD]
 have HD:=zH (show thenZ (sgnZ a.kind b.kind) (thenZ (sgnZ a.num b.num) (thenZ (cmpT a.text b.text) (thenZ (ordL a.list b.list) (sgnZ a.elem b.elem)))) = D by rw [← ordV_eq];exact hD)
 have HEF:=zH hef
 clear hD hef
 have HI:=zH ih
 have HN:=zH (And.intro hN hM)
 have HV:=zH (And.intro h hb)
 clear ih h hb hN hM
 go_enter func103,ntmps103
 go_upto_region 1 with fail
 have hb0:Below w.heap.size w ((w.alloc (.cells #[.int .i64 a.kind,.int .u64 a.num,.string a.text,(.slice p N c),.int .i64 a.elem] 25)).alloc (.cells #[.int .i64 b.kind,.int .u64 b.num,.string b.text,(.slice q M d),.int .i64 b.elem] 25)):=(((Below.refl _ _).alloc (Nat.le_refl _) _).alloc (by simp) _)
 have ox:((w.alloc (.cells #[.int .i64 a.kind,.int .u64 a.num,.string a.text,(.slice p N c),.int .i64 a.elem] 25)).alloc (.cells #[.int .i64 b.kind,.int .u64 b.num,.string b.text,(.slice q M d),.int .i64 b.elem] 25)).heap[w.heap.size]? = some (.cells #[.int .i64 a.kind,.int .u64 a.num,.string a.text,(.slice p N c),.int .i64 a.elem] 25 (0,0)):=(hao _ _ (by simp)).trans (zN _ _)
 have oy:((w.alloc (.cells #[.int .i64 a.kind,.int .u64 a.num,.string a.text,(.slice p N c),.int .i64 a.elem] 25)).alloc (.cells #[.int .i64 b.kind,.int .u64 b.num,.string b.text,(.slice q M d),.int .i64 b.elem] 25)).heap[w.heap.size+1]? = some (.cells #[.int .i64 b.kind,.int .u64 b.num,.string b.text,(.slice q M d),.int .i64 b.elem] 25 (0,0)):=by have:=zN (w.alloc (.cells #[.int .i64 a.kind,.int .u64 a.num,.string a.text,(.slice p N c),.int .i64 a.elem] 25)) (.cells #[.int .i64 b.kind,.int .u64 b.num,.string b.text,(.slice q M d),.int .i64 b.elem] 25);rwa [World.size_alloc] at this
 generalize ((w.alloc (.cells #[.int .i64 a.kind,.int .u64 a.num,.string a.text,(.slice p N c),.int .i64 a.elem] 25)).alloc (.cells #[.int .i64 b.kind,.int .u64 b.num,.string b.text,(.slice q M d),.int .i64 b.elem] 25)) = w0 at *
 obtain ⟨x,hx⟩:∃ x,w.heap.size = x:=⟨_,rfl⟩
 rw [hx] at ox oy ⊢
 obtain ⟨y,hy⟩:∃ y,x+1 = y:=⟨_,rfl⟩
 rw [hy] at oy ⊢
 have HB0:=zH hb0
 have HOx:=zH ox
 have HOy:=zH oy
 clear hb0 ox oy hx hy
 obtain ⟨x0,x1,x2,x3,x4⟩:=c5 HOx.out
 obtain ⟨y0,y1,y2,y3,y4⟩:=c5 HOy.out
 obtain ⟨z1,hz1⟩:∃ z,sgnZ a.kind b.kind = z:=⟨_,rfl⟩
 obtain ⟨z2,hz2⟩:∃ z,sgnZ a.num b.num = z:=⟨_,rfl⟩
 obtain ⟨z3,hz3⟩:∃ z,cmpT a.text b.text = z:=⟨_,rfl⟩
 obtain ⟨z4,hz4⟩:∃ z,ordL a.list b.list = z:=⟨_,rfl⟩
 obtain ⟨z5,hz5⟩:∃ z,sgnZ a.elem b.elem = z:=⟨_,rfl⟩
 have hk1:=fun W=>compare_int a.kind b.kind W
 have hk2:=fun W=>compare_uint64 a.num b.num W
 have hk3:=fun W=>strcmp_any a.text b.text W
 have hk5:=fun W=>compare_int a.elem b.elem W
 rw [hz1] at hk1
 rw [hz2] at hk2
 rw [hz3] at hk3
 rw [hz5] at hk5
 have HK:=zH (And.intro hk1 (And.intro hk2 (And.intro hk3 hk5)))
 have HD2:Hid (thenZ z1 (thenZ z2 (thenZ z3 (thenZ z4 z5))) = D):=zH (by rw [← hz1,← hz2,← hz3,← hz4,← hz5];exact HD.out)
 have HZ4:=zH hz4
 have HX:Hid (∀ W',Below w0.heap.size w0 W' -> W'.cell? ⟨x,0,none⟩ = some (.int .i64 a.kind)∧W'.cell? ⟨x,1,none⟩ = some (.int .u64 a.num)∧W'.cell? ⟨x,2,none⟩ = some (.string a.text)∧W'.cell? ⟨y,0,none⟩ = some (.int .i64 b.kind)∧W'.cell? ⟨y,1,none⟩ = some (.int .u64 b.num)∧W'.cell? ⟨y,2,none⟩ = some (.string b.text)):=zH (fun W' hB=>⟨bs_cellV hB x0,bs_cellV hB x1,bs_cellV hB x2,bs_cellV hB y0,bs_cellV hB y1,bs_cellV hB y2⟩)
 have HX4:Hid (∀ W',Below w0.heap.size w0 W' -> W'.cell? ⟨x,3,none⟩ = some (.slice p N c)∧W'.cell? ⟨x,4,none⟩ = some (.int .i64 a.elem)∧W'.cell? ⟨y,3,none⟩ = some (.slice q M d)∧W'.cell? ⟨y,4,none⟩ = some (.int .i64 b.elem)):=zH (fun W' hB=>⟨bs_cellV hB x3,bs_cellV hB x4,bs_cellV hB y3,bs_cellV hB y4⟩)
 clear hz1 hz2 hz3 hz4 hz5 hk1 hk2 hk3 hk5 x3 x4 y3 y4
 obtain ⟨u,hu⟩:∃ u,orL [z1,z2,z3] = u:=⟨_,rfl⟩
 have HU:=zH hu
 clear hu
 have hdr:Below w0.heap.size w0 w0.drew:=⟨rfl,rfl,rfl,Nat.le_refl _,fun _ _=>rfl⟩
 go_region_held3 (fun w'=>w'.cell? ⟨x,0,none⟩ = some (.int .i64 a.kind)∧w'.cell? ⟨x,1,none⟩ = some (.int .u64 a.num)∧w'.cell? ⟨x,2,none⟩ = some (.string a.text)∧w'.cell? ⟨y,0,none⟩ = some (.int .i64 b.kind)∧w'.cell? ⟨y,1,none⟩ = some (.int .u64 b.num)∧w'.cell? ⟨y,2,none⟩ = some (.string b.text)) (first|exact HX.out _ hdr|exact HX.out _ (hdr.alloc (Nat.le_refl _) _)|exact HX.out _ (by assumption))
  (first
   | (go_at_call 123;refine (HK.out.1 _).mono ?_;rintro e w' ⟨rfl,rfl⟩)
   | (go_at_call 124;refine (HK.out.2.1 _).mono ?_;rintro e w' ⟨rfl,rfl⟩)
   | (go_at_call 125;refine (HK.out.2.2.1 _).mono ?_;rintro e w' ⟨rfl,rfl⟩)
   | (go_at_call 122;refine (or_any _ _ 3 3 [z1,z2,z3] rfl (by omega) (by omega) (or_cells [z1,z2,z3])).mono ?_;rintro e w' ⟨rfl,rfl⟩;rw [HU.out]))
 have hd1:Below w0.heap.size w0 ((w0.alloc (.cells #[.int .i64 z1,.int .i64 z2,.int .i64 z3] 3)).drew):=(hdr.alloc (Nat.le_refl _) _)
 generalize ((w0.alloc (.cells #[.int .i64 z1,.int .i64 z2,.int .i64 z3] 3)).drew) = w1 at *
 have HB1:=zH hd1
 clear hd1 hdr x0 x1 x2 y0 y1 y2
 by_cases hu0:u = 0
 ·have hut:(u == 0) = true:=by simpa using hu0
  have hDu:thenZ z4 z5 = D:=by rw [← HD2.out];exact (orL_zero (by rw [HU.out];exact hu0)).symm
  obtain ⟨v,hv⟩:∃ v,orL [z4,z5] = v:=⟨_,rfl⟩
  have HV2:=zH hv
  have hvD:v = D:=by rw [← hDu,← hv];simp only [orL,thenZ];by_cases h:z5 = 0 <;> simp [h]
  subst hvD
  subst hu0
  obtain ⟨e3,e4,g3,g4⟩:=HX4.out w1 HB1.out
  clear hDu hv
  go_upto_region 4 with fail
  have hdr:Below w0.heap.size w0 w1.drew:=⟨HB1.out.os,HB1.out.tape,HB1.out.output,HB1.out.size,HB1.out.block⟩
  have hc:=HEF.out w1.drew _ b _ (HV.out.1.blw (HB0.out.trans (hdr.mono HB0.out.size))) (HV.out.2.blw (HB0.out.trans (hdr.mono HB0.out.size)))
  rw [HZ4.out] at hc
  have HC:=zH hc
  clear hc
  go_region_held3 (fun w'=>w'.cell? ⟨x,3,none⟩ = some (.slice p N c)∧w'.cell? ⟨x,4,none⟩ = some (.int .i64 a.elem)∧w'.cell? ⟨y,3,none⟩ = some (.slice q M d)∧w'.cell? ⟨y,4,none⟩ = some (.int .i64 b.elem)) (first|exact HX4.out _ hdr|exact HX4.out _ (by assumption)|exact HX4.out _ (hw2.alloc hw2.size _))
   (first
    | (go_at_call 126;refine HC.out.mono ?_;rintro e w2 ⟨rfl,hb2⟩;have hw2:Below w0.heap.size w0 w2:=hdr.trans (hb2.mono hdr.size);clear hb2)
    | (go_at_call 123;refine (HK.out.2.2.2 _).mono ?_;rintro e w' ⟨rfl,rfl⟩)
    | (go_at_call 122;refine (or_any _ _ 2 2 [z4,z5] rfl (by omega) (by omega) (or_cells' [z4,z5])).mono ?_;rintro e w' ⟨rfl,rfl⟩;rw [HV2.out]))
  go_wp2_with fail
  go_ret
  exact ⟨rfl,HB0.out.trans ((hw2.alloc hw2.size _).mono HB0.out.size)⟩
 have hut:(u == 0) = false:=by simpa using hu0
 have HDu:=zH (show D = u by rw [← HD2.out,← HU.out];exact orL_pos (by rw [HU.out];exact hu0))
 go_wp2_with fail
 go_ret
 exact ⟨by rw [HDu.out];rfl,HB0.out.trans (HB1.out.mono HB0.out.size)⟩

theorem cell_of_newrow {w:World} {ys:List Value} {e:TypeId} {j:Nat} {u:Value} (hj:ys[j]? = some u):(w.alloc (.cells ys.toArray e)).cell? ((⟨w.heap.size,0,none⟩:Addr).add j) = some u:=by
 have hadd:(⟨w.heap.size,0,none⟩:Addr).add j = ⟨w.heap.size,j,none⟩:=by unfold Addr.add;split <;> simp_all
 rw [hadd,cell_of_row _ _ j _ _ _ (zN w _)]
 simpa using hj
theorem info_val:(Tryz.prog.info? 25).map (fun i=>(i.zero,i.size,i.bytes)) = some (some (.agg zR),5,64):=by kernel_rfl
theorem info_partsV {P:Program} {t:TypeId} {z:Value} {k b:Nat} (h:(P.info? t).map (fun i=>(i.zero,i.size,i.bytes)) = some (some z,k,b)):∃ i,P.info? t = some i∧i.zero = some z∧i.size = k∧i.bytes = b:=by
 obtain ⟨i,hi,hzz⟩:=Option.map_eq_some_iff.1 h
 simp only [Prod.mk.injEq] at hzz
 exact ⟨i,hi,hzz.1,hzz.2.1,hzz.2.2⟩
theorem VO.slice {w:World} {B:Nat} {v:V} {s:Value} {F:Nat -> Prop} (h:VO w B v s F):∃ p c,s = .slice p v.list.length c∧v.list.length <= c∧c <= maxLen:=by
 obtain ⟨p,c,e,h1,h2,_⟩:=h.vin.slice
 exact ⟨p,c,e,h1,h2⟩
theorem set_farV {w:World} {b i g:Nat} {v:Value} (h:g ≠ b):(w.setCell ⟨b,i,none⟩ v).heap[g]? = w.heap[g]?:=by
 simp [World.setCell,Array.getElem?_modify,Ne.symm h]
theorem VO.as {w:World} {B:Nat} {v v':V} {s:Value} {F:Nat -> Prop} (h:VO w B v s F) (hl:v'.list = v.list) (hw:v'.Wf):VO w B v' s F:=by
 cases h with
 | mk _ _ _ ss Fs wf hrow hin hd hs hF =>
  have hln:v'.list.length = v.list.length:=by rw [hl]
  refine .mk v' s F ss Fs hw (by rw [hl];exact hrow) (fun i hi=>?_) (fun i j hi hj=>hd i j (hln ▸ hi) (hln ▸ hj)) (fun g hg i hi=>hs g hg i (hln ▸ hi)) (fun b=>by rw [hF b,hln])
  have:=hin i (hln ▸ hi)
  have e:v'.list[i] = v.list[i]'(hln ▸ hi):=by simp only [hl]
  rw [e]
  exact this

end Go.Proofs.YtnnnfhobbnjmfaaGreatDoor
