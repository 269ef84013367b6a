/-
  Lemmas on the codec. Conditions: as each says.
-/
import Derived.Test.YtnnnfhobbnjmfaaGreatDoorWn21
namespace Go.Proofs.YtnnnfhobbnjmfaaGreatDoor
open Go.RowKit Go.Proofs.Tryz
set_option linter.all false
set_option maxHeartbeats 40000000
set_option maxRecDepth 20000

attribute [local go_sem] Oper.semAt_some

def Src (w:World) (r:Nat) (p:Option Addr) (n cp:Nat) (B:List UInt8):Prop:=∃ wv:World,BytesIn wv p n cp B∧Below wv.heap.size wv w∧wv.heap.size <= r∧Tabs wv
theorem Src.bytes {w:World} {r:Nat} {p:Option Addr} {n cp:Nat} {B:List UInt8} (h:Src w r p n cp B):BytesIn w p n cp B:=by
 obtain ⟨wv,h1,h2,_⟩:=h
 exact h1.below h2
theorem Src.tabs {w:World} {r:Nat} {p:Option Addr} {n cp:Nat} {B:List UInt8} (h:Src w r p n cp B):Tabs w:=by
 obtain ⟨wv,_,h2,_,h4⟩:=h
 exact h4.below h2
theorem Src.keep {w w':World} {r:Nat} {p:Option Addr} {n cp:Nat} {B:List UInt8} (h:Src w r p n cp B) (hk:KeepF (fun g=>r <= g) w w'):Src w' r p n cp B:=by
 obtain ⟨wv,h1,h2,h3,h4⟩:=h
 exact ⟨wv,h1,KeepF.below h2 hk (fun j hj=>Nat.le_trans h3 hj) h2.size,h3,h4⟩
theorem Src.up {w:World} {r q:Nat} {p:Option Addr} {n cp:Nat} {B:List UInt8} (h:Src w r p n cp B) (hq:r <= q):Src w q p n cp B:=by
 obtain ⟨wv,h1,h2,h3,h4⟩:=h
 exact ⟨wv,h1,h2,Nat.le_trans h3 hq,h4⟩
structure RdIn (w:World) (r:Nat) (p:Option Addr) (n cp at_ en:Nat) (sz:Int) (B:List UInt8):Prop where
 row:w.heap[r]? = some (.cells #[.slice p n cp,.int .i64 (at_:Nat),.int .i64 (en:Nat),.int .i64 sz] 66 (0,0))
 src:Src w r p n cp B
 ha:at_ <= en
 hen:en <= n
 hn:n <= 140737488355328
theorem RdIn.lt {w:World} {r:Nat} {p:Option Addr} {n cp at_ en:Nat} {sz:Int} {B:List UInt8} (h:RdIn w r p n cp at_ en sz B):r < w.heap.size:=(gl h.row)
theorem RdIn.len {w:World} {r:Nat} {p:Option Addr} {n cp at_ en:Nat} {sz:Int} {B:List UInt8} (h:RdIn w r p n cp at_ en sz B):B.length = n:=h.src.bytes.len
theorem RdIn.blw {w w':World} {r:Nat} {p:Option Addr} {n cp at_ en:Nat} {sz:Int} {B:List UInt8} (h:RdIn w r p n cp at_ en sz B) (hb:Below w.heap.size w w'):RdIn w' r p n cp at_ en sz B :=
 ⟨(hb.block r h.lt).trans h.row,h.src.keep (KeepF.of_below hb),h.ha,h.hen,h.hn⟩
theorem RdIn.mv {w w':World} {r:Nat} {p:Option Addr} {n cp at_ en at2:Nat} {sz:Int} {B:List UInt8} (h:RdIn w r p n cp at_ en sz B) (hm:RdMv w w' r #[.slice p n cp,.int .i64 (at2:Nat),.int .i64 (en:Nat),.int .i64 sz]) (h2:at2 <= en):RdIn w' r p n cp at2 en sz B :=
 ⟨hm.at_,h.src.keep (hm.keep.wide (fun j e=>by subst e;exact Nat.le_refl _)),h2,h.hen,h.hn⟩
def sOf (B:List UInt8) (at_ en:Nat):List UInt8:=(B.drop at_).take (en - at_)
theorem sOf_len {B:List UInt8} {at_ en:Nat} (h:en <= B.length):(sOf B at_ en).length = en - at_:=by
 unfold sOf;rw [List.length_take,List.length_drop];omega
theorem sOf_take {B:List UInt8} {at_ en k:Nat} (h:k <= en - at_):(sOf B at_ en).take k = (B.drop at_).take k:=by
 unfold sOf;rw [List.take_take];congr 1;omega
theorem sOf_drop {B:List UInt8} {at_ en k:Nat}:(sOf B at_ en).drop k = sOf B (at_+k) en:=by
 unfold sOf;rw [List.drop_take,List.drop_drop];congr 1;omega
theorem sOf_cut {B:List UInt8} {at_ en m:Nat} (h:m <= en - at_):(sOf B at_ en).take m = sOf B at_ (at_+m):=by
 unfold sOf;rw [List.take_take];congr 1;omega
def erP (n:Nat) (sz own:Int) (at_:Nat):Er -> Int
 | .short=>shP n sz
 | .own _=>own
 | .pl r _=>(at_+r:Nat)
def erC (sz:Int):Er -> Int
 | .short=>shC sz
 | .own e=>e.1
 | .pl _ e=>e.1
def RdTo (w:World) (r:Nat) (p:Option Addr) (n cp at_ en:Nat) (sz own:Int) (x:Res) (e:Ending) (w':World):Prop :=
 match x with
 | .error y=>e = faultE (erP n sz own at_ y) (erC sz y)∧KeepF (fun g=>g = r) w w'
 | .ok (v,k)=>∃ s F,e = .returned (.agg #[.int .i64 v.kind,.int .u64 v.num,.string v.text,s,.int .i64 v.elem])∧VO w' w.heap.size v s F∧RdMv w w' r #[.slice p n cp,.int .i64 (at_+k:Nat),.int .i64 (en:Nat),.int .i64 sz]
theorem nAt_lt {B:List UInt8} {at_ wd:Nat}:nAt B at_ wd < 256 ^ wd:=by
 unfold nAt
 have h:=beVal_lt ((B.drop at_).take wd)
 have h2:((B.drop at_).take wd).length <= wd:=by rw [List.length_take];omega
 exact Nat.lt_of_lt_of_le h (Nat.pow_le_pow_right (by omega) h2)
theorem RdMv.eq {w w':World} {r:Nat} {p:Option Addr} {n cp:Nat} {en:Int} {sz:Int} {a:Int} {b:Nat} (h:RdMv w w' r #[.slice p n cp,.int .i64 a,.int .i64 en,.int .i64 sz]) (e:a = (b:Int)):RdMv w w' r #[.slice p n cp,.int .i64 (b:Nat),.int .i64 en,.int .i64 sz]:=by subst e;exact h
theorem RdMv.after {w w' w2:World} {r:Nat} {cs:Array Value} (h:RdMv w w' r cs) (hb:Below w'.heap.size w' w2):RdMv w w2 r cs :=
 ⟨h.keep.trans (KeepF.of_below hb),(hb.block r (gl h.at_)).trans h.at_⟩
theorem RdMv.before {w w' w2:World} {r:Nat} {cs:Array Value} (hb:Below w.heap.size w w') (h:RdMv w' w2 r cs):RdMv w w2 r cs :=
 ⟨(KeepF.of_below hb).trans h.keep,h.at_⟩
theorem fixed_short (c wd:Nat) (K:Int) (hclt:c < 256) (hwd:widC c = wd) (hkd:kindC c = K) (w:World) (r:Nat) (p:Option Addr) (n cp at_ en:Nat) (sz own:Int) (B:List UInt8) (h:RdIn w r p n cp at_ en sz B) (hs:en < at_+wd) :
  Calls prog 84 #[.pointer (some ⟨r,0,none⟩),.int .u8 (c:Nat)] w fun e w'=>e = faultE (shP n sz) (shC sz)∧KeepF (fun g=>g = r) w w':=by
 have HW:=zH (fun W=>hwd ▸ width_any (c) W hclt)
 have HK:=zH (fun W=>hkd ▸ kind_any (c) W)
 have H:=zH h
 have HN:=zH (show ∀ W,RdIn W r p n cp at_ en sz B -> Calls prog 106 #[.pointer (some ⟨r,0,none⟩),.int .i64 (wd:Nat)] W fun e w'=>e = faultE (shP n sz) (shC sz)∧Below W.heap.size W w' from fun W hW=>number_bad W r p n cp at_ en sz hW.row wd hW.ha hs hW.hen hW.hn)
 clear h hwd hkd hs hclt
 go_enter func84,ntmps84
 go_upto_region 1 with fail
 have hb0:Below w.heap.size w (w.alloc (.cells zR 25)):=((Below.refl _ _).alloc (Nat.le_refl _) _)
 have oy:=zN w (.cells zR 25)
 generalize (w.alloc (.cells zR 25)) = w0 at *
 obtain ⟨y,hy⟩:∃ y,w.heap.size = y:=⟨_,rfl⟩
 rw [hy] at oy ⊢
 have HR0:=zH (H.out.blw hb0)
 have HB0:=zH (And.intro hb0 (And.intro hy oy))
 clear hb0 hy oy
 refine wp_region_heldN (fun V=>V.heap[r]? = some (.cells #[.slice p n cp,.int .i64 (at_:Nat),.int .i64 (en:Nat),.int .i64 sz] 66 (0,0))) 8 rfl (by kernel_rfl) ?_
 have hS:w0.drew.heap[r]? = some (.cells #[.slice p n cp,.int .i64 (at_:Nat),.int .i64 (en:Nat),.int .i64 sz] 66 (0,0)):=HR0.out.row
 refine tkI 0 (.pointer (some ⟨r,0,none⟩)) 8 rfl rfl (by kernel_rfl) (fun _ _ _=>id) (by rfl) (by rintro V h0;go_simp) hS ?_
 try simp only [Act.put,sA,sB,sC]
 refine tkI 1 (.pointer (some ⟨r,0,none⟩)) 9 rfl rfl (by kernel_rfl) (fun _ _ _=>id) (by rfl) (by rintro V h0;go_simp) hS ?_
 try simp only [Act.put,sA,sB,sC]
 refine tkI 2 (.pointer (some ⟨r,1,none⟩)) 10 rfl rfl (by kernel_rfl) (fun _ _ _=>id) (by rfl) (by rintro V h0;go_simp) hS ?_
 try simp only [Act.put,sA,sB,sC]
 refine tkI 3 (.int .i64 (at_:Nat)) 11 rfl rfl (by kernel_rfl) (fun _ _ _=>id) (by rfl) (by rintro V h0;have y1:=(cell_of_row V _ 1 _ _ _ h0).trans rfl;go_simp) hS ?_
 try simp only [Act.put,sA,sB,sC]
 refine tkI 4 (.int .u8 (((c:Nat):Int))) 12 rfl rfl (by kernel_rfl) (fun _ _ _=>id) (by rfl) (by rintro V h0;go_simp) hS ?_
 try simp only [Act.put,sA,sB,sC]
 refine oneH (i:=5) (by kernel_rfl) ?_
 refine stepD (i:=5) rfl (by rfl) (fun K5 h5=>?_)
 go_simp
 (with_reducible refine (HW.out w0.drew).mono ?_)
 rintro e w1 ⟨rfl,rfl⟩
 refine h5.out _ _ hS ?_
 clear h5
 try simp only [Act.put,sA,sB,sC]
 refine tkI 6 (.int .i64 (at_:Nat)) 5 rfl rfl (by kernel_rfl) (fun _ _ _=>id) (by rfl) (by rintro V h0;go_simp) hS ?_
 try simp only [Act.put,sA,sB,sC]
 refine tkI 7 (.int .i64 (((wd:Nat):Int))) 6 rfl rfl (by kernel_rfl) (fun _ _ _=>id) (by rfl) (by rintro V h0;go_simp) hS ?_
 try simp only [Act.put,sA,sB,sC]
 refine wpAnyH_done (by kernel_rfl) ?_ _
 clear hS
 try go_at_K
 have HBd:=zH (And.intro (bdrew HB0.out.1) HB0.out.2)
 have HRd:=zH (show RdIn w0.drew r p n cp at_ en sz B from HR0.out.blw (bdrew (Below.refl _ _)))
 have oyd:w0.drew.heap[y]? = some (.cells zR 25 (0,0)):=HB0.out.2.2
 have HOY:=zH oyd
 clear oyd
 generalize w0.drew = w1 at *
 go_wp2_with fail
 refine (HK.out _).mono ?_
 rintro e w2 ⟨rfl,rfl⟩
 go_wp2_with fail
 refine (HN.out _ HRd.out).mono ?_
 rintro e w3 ⟨rfl,hb3⟩
 exact ⟨rfl,rfl,(KeepF.of_below HBd.out.1).trans (KeepF.of_below hb3)⟩
theorem mrg_fixed_plain (c wd:Nat):(∀ (K:Int) (hclt:c < 256) (hwd:widC c = wd) (hkd:kindC c = K) (h1:1 <= wd) (h8:wd <= 8) (w:World) (r:Nat) (p:Option Addr) (n cp at_ en:Nat) (sz own:Int) (B:List UInt8) (h:RdIn w r p n cp at_ en sz B) (hs:at_+wd <= en) (hno:Hid ((K == 6) = false∧(K == 7) = false∧(K == 8) = false∧(K == 9) = false∧(K == 1) = false∧(K == 15) = false)),Calls prog 84 #[.pointer (some ⟨r,0,none⟩),.int .u8 (c:Nat)] w fun e w'=>e = .returned (.agg #[.int .i64 K,.int .u64 (nAt B at_ wd),.string ⟨#[]⟩,.slice none 0 0,.int .i64 0])∧RdMv w w' r #[.slice p n cp,.int .i64 (at_+wd:Nat),.int .i64 (en:Nat),.int .i64 sz]) ∧
  (∀ (hclt:c < 256) (hwd:widC c = wd) (hkd:kindC c = 1) (h1:1 <= wd) (h8:wd <= 8) (w:World) (r:Nat) (p:Option Addr) (n cp at_ en:Nat) (sz own:Int) (B:List UInt8) (h:RdIn w r p n cp at_ en sz B) (hs:at_+wd <= en) (hno:Hid (decide ((1:Int) < (nAt B at_ wd:Nat)) = false)),Calls prog 84 #[.pointer (some ⟨r,0,none⟩),.int .u8 (c:Nat)] w fun e w'=>e = .returned (.agg #[.int .i64 1,.int .u64 (nAt B at_ wd),.string ⟨#[]⟩,.slice none 0 0,.int .i64 0])∧RdMv w w' r #[.slice p n cp,.int .i64 (at_+wd:Nat),.int .i64 (en:Nat),.int .i64 sz]) ∧
  (∀ (hclt:c < 256) (hwd:widC c = wd) (hkd:kindC c = 1) (h1:1 <= wd) (h8:wd <= 8) (w:World) (r:Nat) (p:Option Addr) (n cp at_ en:Nat) (sz own:Int) (B:List UInt8) (h:RdIn w r p n cp at_ en sz B) (hs:at_+wd <= en) (hno:Hid (decide ((1:Int) < (nAt B at_ wd:Nat)) = true)),Calls prog 84 #[.pointer (some ⟨r,0,none⟩),.int .u8 (c:Nat)] w fun e w'=>e = faultE (at_:Nat) 31∧KeepF (fun g=>g = r) w w') ∧
  (∀ (hclt:c < 256) (hwd:widC c = wd) (hkd:kindC c = 15) (h1:1 <= wd) (h8:wd <= 8) (w:World) (r:Nat) (p:Option Addr) (n cp at_ en:Nat) (sz own:Int) (B:List UInt8) (h:RdIn w r p n cp at_ en sz B) (hs:at_+wd <= en) (hno:Hid (decide ((1114111:Int) < (nAt B at_ wd:Nat)) = false∧decide ((55296:Int) <= (nAt B at_ wd:Nat)) = false)),Calls prog 84 #[.pointer (some ⟨r,0,none⟩),.int .u8 (c:Nat)] w fun e w'=>e = .returned (.agg #[.int .i64 15,.int .u64 (nAt B at_ wd),.string ⟨#[]⟩,.slice none 0 0,.int .i64 0])∧RdMv w w' r #[.slice p n cp,.int .i64 (at_+wd:Nat),.int .i64 (en:Nat),.int .i64 sz]) ∧
  (∀ (hclt:c < 256) (hwd:widC c = wd) (hkd:kindC c = 15) (h1:1 <= wd) (h8:wd <= 8) (w:World) (r:Nat) (p:Option Addr) (n cp at_ en:Nat) (sz own:Int) (B:List UInt8) (h:RdIn w r p n cp at_ en sz B) (hs:at_+wd <= en) (hno:Hid (decide ((1114111:Int) < (nAt B at_ wd:Nat)) = false∧decide ((55296:Int) <= (nAt B at_ wd:Nat)) = true∧decide ((nAt B at_ wd:Nat) < (57344:Int)) = false)),Calls prog 84 #[.pointer (some ⟨r,0,none⟩),.int .u8 (c:Nat)] w fun e w'=>e = .returned (.agg #[.int .i64 15,.int .u64 (nAt B at_ wd),.string ⟨#[]⟩,.slice none 0 0,.int .i64 0])∧RdMv w w' r #[.slice p n cp,.int .i64 (at_+wd:Nat),.int .i64 (en:Nat),.int .i64 sz]) ∧
  (∀ (hclt:c < 256) (hwd:widC c = wd) (hkd:kindC c = 15) (h1:1 <= wd) (h8:wd <= 8) (w:World) (r:Nat) (p:Option Addr) (n cp at_ en:Nat) (sz own:Int) (B:List UInt8) (h:RdIn w r p n cp at_ en sz B) (hs:at_+wd <= en) (hno:Hid (decide ((1114111:Int) < (nAt B at_ wd:Nat)) = true)),Calls prog 84 #[.pointer (some ⟨r,0,none⟩),.int .u8 (c:Nat)] w fun e w'=>e = faultE (at_:Nat) 31∧KeepF (fun g=>g = r) w w') ∧
  (∀ (hclt:c < 256) (hwd:widC c = wd) (hkd:kindC c = 15) (h1:1 <= wd) (h8:wd <= 8) (w:World) (r:Nat) (p:Option Addr) (n cp at_ en:Nat) (sz own:Int) (B:List UInt8) (h:RdIn w r p n cp at_ en sz B) (hs:at_+wd <= en) (hno:Hid (decide ((1114111:Int) < (nAt B at_ wd:Nat)) = false∧decide ((55296:Int) <= (nAt B at_ wd:Nat)) = true∧decide ((nAt B at_ wd:Nat) < (57344:Int)) = true)),Calls prog 84 #[.pointer (some ⟨r,0,none⟩),.int .u8 (c:Nat)] w fun e w'=>e = faultE (at_:Nat) 31∧KeepF (fun g=>g = r) w w'):=by
 refine ⟨?_,?_,?_,?_,?_,?_,?_⟩
 intro K hclt hwd hkd h1 h8 w r p n cp at_ en sz own B h hs hno
 rotate_left
 intro hclt hwd hkd h1 h8 w r p n cp at_ en sz own B h hs hno
 rotate_left
 intro hclt hwd hkd h1 h8 w r p n cp at_ en sz own B h hs hno
 rotate_left
 intro hclt hwd hkd h1 h8 w r p n cp at_ en sz own B h hs hno
 rotate_left
 intro hclt hwd hkd h1 h8 w r p n cp at_ en sz own B h hs hno
 rotate_left
 intro hclt hwd hkd h1 h8 w r p n cp at_ en sz own B h hs hno
 rotate_left
 intro hclt hwd hkd h1 h8 w r p n cp at_ en sz own B h hs hno
 rotate_left
 all_goals
  have HW:=zH (fun W=>hwd ▸ width_any (c) W hclt)
  have HK:=zH (fun W=>hkd ▸ kind_any (c) W)
  have H:=zH h
  have HN:=zH (show ∀ W,RdIn W r p n cp at_ en sz B -> Calls prog 106 #[.pointer (some ⟨r,0,none⟩),.int .i64 (wd:Nat)] W fun e w'=>e = .returned (.int .u64 (nAt B at_ wd))∧RdMv W w' r #[.slice p n cp,.int .i64 (at_+wd:Nat),.int .i64 (en:Nat),.int .i64 sz] from fun W hW=>(number_ok W r p n cp at_ en sz hW.row B hW.src.bytes wd h1 h8 hW.ha hs hW.hen hW.hn).mono (fun e w' q=>⟨q.1,q.2.eq (by omega)⟩))
  have hlt:=zH h.lt
  clear h hwd hkd hs hclt h8 h1
  go_enter func84,ntmps84
  go_upto_region 1 with fail
  have hb0:Below w.heap.size w (w.alloc (.cells zR 25)):=((Below.refl _ _).alloc (Nat.le_refl _) _)
  have oy:=zN w (.cells zR 25)
  generalize (w.alloc (.cells zR 25)) = w0 at *
  obtain ⟨y,hy⟩:∃ y,w.heap.size = y:=⟨_,rfl⟩
  rw [hy] at oy ⊢
  have HR0:=zH (H.out.blw hb0)
  have HB0:=zH (And.intro hb0 (And.intro hy oy))
  clear hb0 hy oy
  refine wp_region_heldN (fun V=>V.heap[r]? = some (.cells #[.slice p n cp,.int .i64 (at_:Nat),.int .i64 (en:Nat),.int .i64 sz] 66 (0,0))) 8 rfl (by kernel_rfl) ?_
  have hS:w0.drew.heap[r]? = some (.cells #[.slice p n cp,.int .i64 (at_:Nat),.int .i64 (en:Nat),.int .i64 sz] 66 (0,0)):=HR0.out.row
  refine tkI 0 (.pointer (some ⟨r,0,none⟩)) 8 rfl rfl (by kernel_rfl) (fun _ _ _=>id) (by rfl) (by rintro V h0;go_simp) hS ?_
  try simp only [Act.put,sA,sB,sC]
  refine tkI 1 (.pointer (some ⟨r,0,none⟩)) 9 rfl rfl (by kernel_rfl) (fun _ _ _=>id) (by rfl) (by rintro V h0;go_simp) hS ?_
  try simp only [Act.put,sA,sB,sC]
  refine tkI 2 (.pointer (some ⟨r,1,none⟩)) 10 rfl rfl (by kernel_rfl) (fun _ _ _=>id) (by rfl) (by rintro V h0;go_simp) hS ?_
  try simp only [Act.put,sA,sB,sC]
  refine tkI 3 (.int .i64 (at_:Nat)) 11 rfl rfl (by kernel_rfl) (fun _ _ _=>id) (by rfl) (by rintro V h0;have y1:=(cell_of_row V _ 1 _ _ _ h0).trans rfl;go_simp) hS ?_
  try simp only [Act.put,sA,sB,sC]
  refine tkI 4 (.int .u8 (((c:Nat):Int))) 12 rfl rfl (by kernel_rfl) (fun _ _ _=>id) (by rfl) (by rintro V h0;go_simp) hS ?_
  try simp only [Act.put,sA,sB,sC]
  refine oneH (i:=5) (by kernel_rfl) ?_
  refine stepD (i:=5) rfl (by rfl) (fun K5 h5=>?_)
  go_simp
  (with_reducible refine (HW.out w0.drew).mono ?_)
  rintro e w1 ⟨rfl,rfl⟩
  refine h5.out _ _ hS ?_
  clear h5
  try simp only [Act.put,sA,sB,sC]
  refine tkI 6 (.int .i64 (at_:Nat)) 5 rfl rfl (by kernel_rfl) (fun _ _ _=>id) (by rfl) (by rintro V h0;go_simp) hS ?_
  try simp only [Act.put,sA,sB,sC]
  refine tkI 7 (.int .i64 (((wd:Nat):Int))) 6 rfl rfl (by kernel_rfl) (fun _ _ _=>id) (by rfl) (by rintro V h0;go_simp) hS ?_
  try simp only [Act.put,sA,sB,sC]
  refine wpAnyH_done (by kernel_rfl) ?_ _
  clear hS
  try go_at_K
  have HBd:=zH (And.intro (bdrew HB0.out.1) HB0.out.2)
  have HRd:=zH (show RdIn w0.drew r p n cp at_ en sz B from HR0.out.blw (bdrew (Below.refl _ _)))
  have oyd:w0.drew.heap[y]? = some (.cells zR 25 (0,0)):=HB0.out.2.2
  have HOY:=zH oyd
  clear oyd
  generalize w0.drew = w1 at *
  go_wp2_with fail
  refine (HK.out _).mono ?_
  rintro e w2 ⟨rfl,rfl⟩
  go_wp2_with fail
  refine (HN.out _ HRd.out).mono ?_
  rintro e w3 ⟨rfl,hmv⟩
  have HMV:=zH hmv
  have oy3:=(hmv.keep.block y (gl HOY.out) (fun e=>by have:=hlt.out;have:=HBd.out.2.1;omega)).trans HOY.out
  clear hmv
  go_upto_region 3 with (refine stV (.tmp 7) (.tmp 19) rfl rfl rfl rfl rfl (zN w3 _) rfl ?_)
  refine layW w3 ?_
  intro w4 hb_w4 ox
  have oy4:=(hb_w4.block y (gl oy3)).trans oy3
  obtain ⟨x,hx⟩:∃ x,w3.heap.size = x:=⟨_,rfl⟩
  rw [hx] at ox ⊢
  have HX:=zH (And.intro (And.intro hx (show y ≠ x from fun e=>by have:=(gl oy3);omega)) (And.intro hb_w4 ox))
  have HO4:=zH oy4
  obtain ⟨x0,x1,x2,x3,x4⟩:=c5 ox
  clear hx hb_w4 ox oy3
 ·obtain ⟨k6,k7,k8,k9,k1,k15⟩:=hno.out
  go_wp2_with (refine stV (.tmp 4) (.tmp 64) rfl rfl rfl rfl rfl oy4 rfl ?_)
  have hh:=setRow_heap w4 y _ #[.int .i64 K,.int .u64 (nAt B at_ wd),.string ⟨#[]⟩,.slice none 0 0,.int .i64 0] _ _ HO4.out
  have hB:=below_setRow (Below.refl y w4) (Nat.le_refl y) #[.int .i64 K,.int .u64 (nAt B at_ wd),.string ⟨#[]⟩,.slice none 0 0,.int .i64 0]
  refine bodyPost_ret (results_cell_row (p:=4) (ty:=25) (by kernel_rfl) _ _ y 25 #[.int .i64 K,.int .u64 (nAt B at_ wd),.string ⟨#[]⟩,.slice none 0 0,.int .i64 0] (0,0) _ rfl hh underlying25 rfl (by as_aux_lemma=>kernel_rfl)) rfl ?_
  refine ⟨rfl,?_⟩
  have hm3:=(RdMv.before HBd.out.1 HMV.out).after HX.out.2.1
  have hyr:r ≠ y:=fun e=>by have:=hlt.out;have:=HBd.out.2.1;omega
  exact ⟨⟨hm3.keep.os,hm3.keep.tape,hm3.keep.output,Nat.le_trans hm3.keep.size (by simp),fun j hj hne=>(setRow_other w4 y j _ (fun e=>by have:=HBd.out.2.1;omega)).trans (hm3.keep.block j hj hne)⟩,(setRow_other w4 y r _ hyr).trans hm3.at_⟩
 ·have hd:=hno.out
  go_wp2_with (refine stV (.tmp 4) (.tmp 64) rfl rfl rfl rfl rfl oy4 rfl ?_)
  have hh:=setRow_heap w4 y _ #[.int .i64 1,.int .u64 (nAt B at_ wd),.string ⟨#[]⟩,.slice none 0 0,.int .i64 0] _ _ HO4.out
  have hB:=below_setRow (Below.refl y w4) (Nat.le_refl y) #[.int .i64 1,.int .u64 (nAt B at_ wd),.string ⟨#[]⟩,.slice none 0 0,.int .i64 0]
  refine bodyPost_ret (results_cell_row (p:=4) (ty:=25) (by kernel_rfl) _ _ y 25 #[.int .i64 1,.int .u64 (nAt B at_ wd),.string ⟨#[]⟩,.slice none 0 0,.int .i64 0] (0,0) _ rfl hh underlying25 rfl (by as_aux_lemma=>kernel_rfl)) rfl ?_
  refine ⟨rfl,?_⟩
  have hm3:=(RdMv.before HBd.out.1 HMV.out).after HX.out.2.1
  have hyr:r ≠ y:=fun e=>by have:=hlt.out;have:=HBd.out.2.1;omega
  exact ⟨⟨hm3.keep.os,hm3.keep.tape,hm3.keep.output,Nat.le_trans hm3.keep.size (by simp),fun j hj hne=>(setRow_other w4 y j _ (fun e=>by have:=HBd.out.2.1;omega)).trans (hm3.keep.block j hj hne)⟩,(setRow_other w4 y r _ hyr).trans hm3.at_⟩
 ·have hd:=hno.out
  go_wp2_with fail
  refine (wrong_any _ _ _).mono ?_
  rintro e w5 ⟨rfl,rfl⟩
  exact ⟨rfl,rfl,((KeepF.of_below HBd.out.1).trans HMV.out.keep).trans (KeepF.of_below HX.out.2.1)⟩
 ·obtain ⟨hd1,hd2⟩:=hno.out
  go_wp2_with (refine stV (.tmp 4) (.tmp 64) rfl rfl rfl rfl rfl oy4 rfl ?_)
  have hh:=setRow_heap w4 y _ #[.int .i64 15,.int .u64 (nAt B at_ wd),.string ⟨#[]⟩,.slice none 0 0,.int .i64 0] _ _ HO4.out
  have hB:=below_setRow (Below.refl y w4) (Nat.le_refl y) #[.int .i64 15,.int .u64 (nAt B at_ wd),.string ⟨#[]⟩,.slice none 0 0,.int .i64 0]
  refine bodyPost_ret (results_cell_row (p:=4) (ty:=25) (by kernel_rfl) _ _ y 25 #[.int .i64 15,.int .u64 (nAt B at_ wd),.string ⟨#[]⟩,.slice none 0 0,.int .i64 0] (0,0) _ rfl hh underlying25 rfl (by as_aux_lemma=>kernel_rfl)) rfl ?_
  refine ⟨rfl,?_⟩
  have hm3:=(RdMv.before HBd.out.1 HMV.out).after HX.out.2.1
  have hyr:r ≠ y:=fun e=>by have:=hlt.out;have:=HBd.out.2.1;omega
  exact ⟨⟨hm3.keep.os,hm3.keep.tape,hm3.keep.output,Nat.le_trans hm3.keep.size (by simp),fun j hj hne=>(setRow_other w4 y j _ (fun e=>by have:=HBd.out.2.1;omega)).trans (hm3.keep.block j hj hne)⟩,(setRow_other w4 y r _ hyr).trans hm3.at_⟩
 ·obtain ⟨hd1,hd2,hd3⟩:=hno.out
  go_wp2_with (refine stV (.tmp 4) (.tmp 64) rfl rfl rfl rfl rfl oy4 rfl ?_)
  have hh:=setRow_heap w4 y _ #[.int .i64 15,.int .u64 (nAt B at_ wd),.string ⟨#[]⟩,.slice none 0 0,.int .i64 0] _ _ HO4.out
  have hB:=below_setRow (Below.refl y w4) (Nat.le_refl y) #[.int .i64 15,.int .u64 (nAt B at_ wd),.string ⟨#[]⟩,.slice none 0 0,.int .i64 0]
  refine bodyPost_ret (results_cell_row (p:=4) (ty:=25) (by kernel_rfl) _ _ y 25 #[.int .i64 15,.int .u64 (nAt B at_ wd),.string ⟨#[]⟩,.slice none 0 0,.int .i64 0] (0,0) _ rfl hh underlying25 rfl (by as_aux_lemma=>kernel_rfl)) rfl ?_
  refine ⟨rfl,?_⟩
  have hm3:=(RdMv.before HBd.out.1 HMV.out).after HX.out.2.1
  have hyr:r ≠ y:=fun e=>by have:=hlt.out;have:=HBd.out.2.1;omega
  exact ⟨⟨hm3.keep.os,hm3.keep.tape,hm3.keep.output,Nat.le_trans hm3.keep.size (by simp),fun j hj hne=>(setRow_other w4 y j _ (fun e=>by have:=HBd.out.2.1;omega)).trans (hm3.keep.block j hj hne)⟩,(setRow_other w4 y r _ hyr).trans hm3.at_⟩
 ·obtain hd:=hno.out
  go_wp2_with fail
  refine (wrong_any _ _ _).mono ?_
  rintro e w5 ⟨rfl,rfl⟩
  exact ⟨rfl,rfl,((KeepF.of_below HBd.out.1).trans HMV.out.keep).trans (KeepF.of_below HX.out.2.1)⟩
 obtain ⟨hd1,hd2,hd3⟩:=hno.out
 go_wp2_with fail
 refine (wrong_any _ _ _).mono ?_
 rintro e w5 ⟨rfl,rfl⟩
 exact ⟨rfl,rfl,((KeepF.of_below HBd.out.1).trans HMV.out.keep).trans (KeepF.of_below HX.out.2.1)⟩
def fixed_plain:=fun c wd=>(mrg_fixed_plain c wd).1
def fixed_bool:=fun c wd=>(mrg_fixed_plain c wd).2.1
def fixed_boolx:=fun c wd=>(mrg_fixed_plain c wd).2.2.1
def fixed_charA:=fun c wd=>(mrg_fixed_plain c wd).2.2.2.1
def fixed_charB:=fun c wd=>(mrg_fixed_plain c wd).2.2.2.2.1
def fixed_charX:=fun c wd=>(mrg_fixed_plain c wd).2.2.2.2.2.1
def fixed_charY:=fun c wd=>(mrg_fixed_plain c wd).2.2.2.2.2.2
theorem mrg_fixed_6_1 (c:Nat) (sg:Int) (hclt:c < 256):(∀ (hwd:widC c = 1) (hkd:kindC c = 6) (h1:1 <= 1) (h8:1 <= 8) (w:World) (r:Nat) (p:Option Addr) (n cp at_ en:Nat) (sz own:Int) (B:List UInt8) (h:RdIn w r p n cp at_ en sz B) (hs:at_+1 <= en) (hno:Hid (IntKind.u64.wrap (wrap64 (IntKind.u64.wrap ((nAt B at_ 1:Nat) * 72057594037927936)) / 72057594037927936) = sg)),Calls prog 84 #[.pointer (some ⟨r,0,none⟩),.int .u8 (c:Nat)] w fun e w'=>e = .returned (.agg #[.int .i64 6,.int .u64 sg,.string ⟨#[]⟩,.slice none 0 0,.int .i64 0])∧RdMv w w' r #[.slice p n cp,.int .i64 (at_+1:Nat),.int .i64 (en:Nat),.int .i64 sz]) ∧
  (∀ (hwd:widC c = 2) (hkd:kindC c = 7) (h1:1 <= 2) (h8:2 <= 8) (w:World) (r:Nat) (p:Option Addr) (n cp at_ en:Nat) (sz own:Int) (B:List UInt8) (h:RdIn w r p n cp at_ en sz B) (hs:at_+2 <= en) (hno:Hid (IntKind.u64.wrap (wrap64 (IntKind.u64.wrap ((nAt B at_ 2:Nat) * 281474976710656)) / 281474976710656) = sg)),Calls prog 84 #[.pointer (some ⟨r,0,none⟩),.int .u8 (c:Nat)] w fun e w'=>e = .returned (.agg #[.int .i64 7,.int .u64 sg,.string ⟨#[]⟩,.slice none 0 0,.int .i64 0])∧RdMv w w' r #[.slice p n cp,.int .i64 (at_+2:Nat),.int .i64 (en:Nat),.int .i64 sz]) ∧
  (∀ (hwd:widC c = 1) (hkd:kindC c = 8) (h1:1 <= 1) (h8:1 <= 8) (w:World) (r:Nat) (p:Option Addr) (n cp at_ en:Nat) (sz own:Int) (B:List UInt8) (h:RdIn w r p n cp at_ en sz B) (hs:at_+1 <= en) (hno:Hid (IntKind.u64.wrap (wrap64 (IntKind.u64.wrap ((nAt B at_ 1:Nat) * 72057594037927936)) / 72057594037927936) = sg)),Calls prog 84 #[.pointer (some ⟨r,0,none⟩),.int .u8 (c:Nat)] w fun e w'=>e = .returned (.agg #[.int .i64 8,.int .u64 sg,.string ⟨#[]⟩,.slice none 0 0,.int .i64 0])∧RdMv w w' r #[.slice p n cp,.int .i64 (at_+1:Nat),.int .i64 (en:Nat),.int .i64 sz]) ∧
  (∀ (hwd:widC c = 4) (hkd:kindC c = 8) (h1:1 <= 4) (h8:4 <= 8) (w:World) (r:Nat) (p:Option Addr) (n cp at_ en:Nat) (sz own:Int) (B:List UInt8) (h:RdIn w r p n cp at_ en sz B) (hs:at_+4 <= en) (hno:Hid (IntKind.u64.wrap (wrap64 (IntKind.u64.wrap ((nAt B at_ 4:Nat) * 4294967296)) / 4294967296) = sg)),Calls prog 84 #[.pointer (some ⟨r,0,none⟩),.int .u8 (c:Nat)] w fun e w'=>e = .returned (.agg #[.int .i64 8,.int .u64 sg,.string ⟨#[]⟩,.slice none 0 0,.int .i64 0])∧RdMv w w' r #[.slice p n cp,.int .i64 (at_+4:Nat),.int .i64 (en:Nat),.int .i64 sz]) ∧
  (∀ (hwd:widC c = 1) (hkd:kindC c = 9) (h1:1 <= 1) (h8:1 <= 8) (w:World) (r:Nat) (p:Option Addr) (n cp at_ en:Nat) (sz own:Int) (B:List UInt8) (h:RdIn w r p n cp at_ en sz B) (hs:at_+1 <= en) (hno:Hid (IntKind.u64.wrap (wrap64 (IntKind.u64.wrap ((nAt B at_ 1:Nat) * 72057594037927936)) / 72057594037927936) = sg)),Calls prog 84 #[.pointer (some ⟨r,0,none⟩),.int .u8 (c:Nat)] w fun e w'=>e = .returned (.agg #[.int .i64 9,.int .u64 sg,.string ⟨#[]⟩,.slice none 0 0,.int .i64 0])∧RdMv w w' r #[.slice p n cp,.int .i64 (at_+1:Nat),.int .i64 (en:Nat),.int .i64 sz]) ∧
  (∀ (hwd:widC c = 8) (hkd:kindC c = 9) (h1:1 <= 8) (h8:8 <= 8) (w:World) (r:Nat) (p:Option Addr) (n cp at_ en:Nat) (sz own:Int) (B:List UInt8) (h:RdIn w r p n cp at_ en sz B) (hs:at_+8 <= en) (hno:Hid (IntKind.u64.wrap (wrap64 (IntKind.u64.wrap (nAt B at_ 8:Nat))) = sg)),Calls prog 84 #[.pointer (some ⟨r,0,none⟩),.int .u8 (c:Nat)] w fun e w'=>e = .returned (.agg #[.int .i64 9,.int .u64 sg,.string ⟨#[]⟩,.slice none 0 0,.int .i64 0])∧RdMv w w' r #[.slice p n cp,.int .i64 (at_+8:Nat),.int .i64 (en:Nat),.int .i64 sz]):=by
 refine ⟨?_,?_,?_,?_,?_,?_⟩
 all_goals intro hwd hkd h1 h8 w r p n cp at_ en sz own B h hs hno
 all_goals
  have HW:=zH (fun W=>hwd ▸ width_any (c) W hclt)
  have HK:=zH (fun W=>hkd ▸ kind_any (c) W)
  have H:=zH h
 have HN:=zH (show ∀ W,RdIn W r p n cp at_ en sz B -> Calls prog 106 #[.pointer (some ⟨r,0,none⟩),.int .i64 (1:Nat)] W fun e w'=>e = .returned (.int .u64 (nAt B at_ 1))∧RdMv W w' r #[.slice p n cp,.int .i64 (at_+1:Nat),.int .i64 (en:Nat),.int .i64 sz] from fun W hW=>(number_ok W r p n cp at_ en sz hW.row B hW.src.bytes 1 h1 h8 hW.ha hs hW.hen hW.hn).mono (fun e w' q=>⟨q.1,q.2.eq (by omega)⟩))
 rotate_left
 have HN:=zH (show ∀ W,RdIn W r p n cp at_ en sz B -> Calls prog 106 #[.pointer (some ⟨r,0,none⟩),.int .i64 (2:Nat)] W fun e w'=>e = .returned (.int .u64 (nAt B at_ 2))∧RdMv W w' r #[.slice p n cp,.int .i64 (at_+2:Nat),.int .i64 (en:Nat),.int .i64 sz] from fun W hW=>(number_ok W r p n cp at_ en sz hW.row B hW.src.bytes 2 h1 h8 hW.ha hs hW.hen hW.hn).mono (fun e w' q=>⟨q.1,q.2.eq (by omega)⟩))
 rotate_left
 have HN:=zH (show ∀ W,RdIn W r p n cp at_ en sz B -> Calls prog 106 #[.pointer (some ⟨r,0,none⟩),.int .i64 (1:Nat)] W fun e w'=>e = .returned (.int .u64 (nAt B at_ 1))∧RdMv W w' r #[.slice p n cp,.int .i64 (at_+1:Nat),.int .i64 (en:Nat),.int .i64 sz] from fun W hW=>(number_ok W r p n cp at_ en sz hW.row B hW.src.bytes 1 h1 h8 hW.ha hs hW.hen hW.hn).mono (fun e w' q=>⟨q.1,q.2.eq (by omega)⟩))
 rotate_left
 have HN:=zH (show ∀ W,RdIn W r p n cp at_ en sz B -> Calls prog 106 #[.pointer (some ⟨r,0,none⟩),.int .i64 (4:Nat)] W fun e w'=>e = .returned (.int .u64 (nAt B at_ 4))∧RdMv W w' r #[.slice p n cp,.int .i64 (at_+4:Nat),.int .i64 (en:Nat),.int .i64 sz] from fun W hW=>(number_ok W r p n cp at_ en sz hW.row B hW.src.bytes 4 h1 h8 hW.ha hs hW.hen hW.hn).mono (fun e w' q=>⟨q.1,q.2.eq (by omega)⟩))
 rotate_left
 have HN:=zH (show ∀ W,RdIn W r p n cp at_ en sz B -> Calls prog 106 #[.pointer (some ⟨r,0,none⟩),.int .i64 (1:Nat)] W fun e w'=>e = .returned (.int .u64 (nAt B at_ 1))∧RdMv W w' r #[.slice p n cp,.int .i64 (at_+1:Nat),.int .i64 (en:Nat),.int .i64 sz] from fun W hW=>(number_ok W r p n cp at_ en sz hW.row B hW.src.bytes 1 h1 h8 hW.ha hs hW.hen hW.hn).mono (fun e w' q=>⟨q.1,q.2.eq (by omega)⟩))
 rotate_left
 have HN:=zH (show ∀ W,RdIn W r p n cp at_ en sz B -> Calls prog 106 #[.pointer (some ⟨r,0,none⟩),.int .i64 (8:Nat)] W fun e w'=>e = .returned (.int .u64 (nAt B at_ 8))∧RdMv W w' r #[.slice p n cp,.int .i64 (at_+8:Nat),.int .i64 (en:Nat),.int .i64 sz] from fun W hW=>(number_ok W r p n cp at_ en sz hW.row B hW.src.bytes 8 h1 h8 hW.ha hs hW.hen hW.hn).mono (fun e w' q=>⟨q.1,q.2.eq (by omega)⟩))
 rotate_left
 all_goals
  have hlt:=zH h.lt
  clear h hwd hkd hs hclt h8 h1
  go_enter func84,ntmps84
  go_upto_region 1 with fail
  have hb0:Below w.heap.size w (w.alloc (.cells zR 25)):=((Below.refl _ _).alloc (Nat.le_refl _) _)
  have oy:=zN w (.cells zR 25)
  generalize (w.alloc (.cells zR 25)) = w0 at *
  obtain ⟨y,hy⟩:∃ y,w.heap.size = y:=⟨_,rfl⟩
  rw [hy] at oy ⊢
  have HR0:=zH (H.out.blw hb0)
  have HB0:=zH (And.intro hb0 (And.intro hy oy))
  clear hb0 hy oy
  refine wp_region_heldN (fun V=>V.heap[r]? = some (.cells #[.slice p n cp,.int .i64 (at_:Nat),.int .i64 (en:Nat),.int .i64 sz] 66 (0,0))) 8 rfl (by kernel_rfl) ?_
  have hS:w0.drew.heap[r]? = some (.cells #[.slice p n cp,.int .i64 (at_:Nat),.int .i64 (en:Nat),.int .i64 sz] 66 (0,0)):=HR0.out.row
  refine tkI 0 (.pointer (some ⟨r,0,none⟩)) 8 rfl rfl (by kernel_rfl) (fun _ _ _=>id) (by rfl) (by rintro V h0;go_simp) hS ?_
  try simp only [Act.put,sA,sB,sC]
  refine tkI 1 (.pointer (some ⟨r,0,none⟩)) 9 rfl rfl (by kernel_rfl) (fun _ _ _=>id) (by rfl) (by rintro V h0;go_simp) hS ?_
  try simp only [Act.put,sA,sB,sC]
  refine tkI 2 (.pointer (some ⟨r,1,none⟩)) 10 rfl rfl (by kernel_rfl) (fun _ _ _=>id) (by rfl) (by rintro V h0;go_simp) hS ?_
  try simp only [Act.put,sA,sB,sC]
  refine tkI 3 (.int .i64 (at_:Nat)) 11 rfl rfl (by kernel_rfl) (fun _ _ _=>id) (by rfl) (by rintro V h0;have y1:=(cell_of_row V _ 1 _ _ _ h0).trans rfl;go_simp) hS ?_
  try simp only [Act.put,sA,sB,sC]
  refine tkI 4 (.int .u8 (((c:Nat):Int))) 12 rfl rfl (by kernel_rfl) (fun _ _ _=>id) (by rfl) (by rintro V h0;go_simp) hS ?_
  try simp only [Act.put,sA,sB,sC]
  refine oneH (i:=5) (by kernel_rfl) ?_
  refine stepD (i:=5) rfl (by rfl) (fun K5 h5=>?_)
  go_simp
  (with_reducible refine (HW.out w0.drew).mono ?_)
  rintro e w1 ⟨rfl,rfl⟩
  refine h5.out _ _ hS ?_
  clear h5
  try simp only [Act.put,sA,sB,sC]
  refine tkI 6 (.int .i64 (at_:Nat)) 5 rfl rfl (by kernel_rfl) (fun _ _ _=>id) (by rfl) (by rintro V h0;go_simp) hS ?_
  try simp only [Act.put,sA,sB,sC]
 focus
  refine tkI 7 (.int .i64 (((1:Nat):Int))) 6 rfl rfl (by kernel_rfl) (fun _ _ _=>id) (by rfl) (by rintro V h0;go_simp) hS ?_
 rotate_left
 focus
  refine tkI 7 (.int .i64 (((2:Nat):Int))) 6 rfl rfl (by kernel_rfl) (fun _ _ _=>id) (by rfl) (by rintro V h0;go_simp) hS ?_
 rotate_left
 focus
  refine tkI 7 (.int .i64 (((1:Nat):Int))) 6 rfl rfl (by kernel_rfl) (fun _ _ _=>id) (by rfl) (by rintro V h0;go_simp) hS ?_
 rotate_left
 focus
  refine tkI 7 (.int .i64 (((4:Nat):Int))) 6 rfl rfl (by kernel_rfl) (fun _ _ _=>id) (by rfl) (by rintro V h0;go_simp) hS ?_
 rotate_left
 focus
  refine tkI 7 (.int .i64 (((1:Nat):Int))) 6 rfl rfl (by kernel_rfl) (fun _ _ _=>id) (by rfl) (by rintro V h0;go_simp) hS ?_
 rotate_left
 focus
  refine tkI 7 (.int .i64 (((8:Nat):Int))) 6 rfl rfl (by kernel_rfl) (fun _ _ _=>id) (by rfl) (by rintro V h0;go_simp) hS ?_
 rotate_left
 all_goals
  try simp only [Act.put,sA,sB,sC]
  refine wpAnyH_done (by kernel_rfl) ?_ _
  clear hS
  try go_at_K
  have HBd:=zH (And.intro (bdrew HB0.out.1) HB0.out.2)
  have HRd:=zH (show RdIn w0.drew r p n cp at_ en sz B from HR0.out.blw (bdrew (Below.refl _ _)))
  have oyd:w0.drew.heap[y]? = some (.cells zR 25 (0,0)):=HB0.out.2.2
  have HOY:=zH oyd
  clear oyd
  generalize w0.drew = w1 at *
  go_wp2_with fail
  refine (HK.out _).mono ?_
  rintro e w2 ⟨rfl,rfl⟩
  go_wp2_with fail
  refine (HN.out _ HRd.out).mono ?_
  rintro e w3 ⟨rfl,hmv⟩
  have HMV:=zH hmv
  have oy3:=(hmv.keep.block y (gl HOY.out) (fun e=>by have:=hlt.out;have:=HBd.out.2.1;omega)).trans HOY.out
  clear hmv
  go_upto_region 3 with (refine stV (.tmp 7) (.tmp 19) rfl rfl rfl rfl rfl (zN w3 _) rfl ?_)
  refine layW w3 ?_
  intro w4 hb_w4 ox
  have oy4:=(hb_w4.block y (gl oy3)).trans oy3
  obtain ⟨x,hx⟩:∃ x,w3.heap.size = x:=⟨_,rfl⟩
  rw [hx] at ox ⊢
  have HX:=zH (And.intro (And.intro hx (show y ≠ x from fun e=>by have:=(gl oy3);omega)) (And.intro hb_w4 ox))
  have HO4:=zH oy4
  obtain ⟨x0,x1,x2,x3,x4⟩:=c5 ox
  clear hx hb_w4 ox oy3
  have fx:w4.frozen? ⟨x,1,none⟩ = false:=by simp [World.frozen?,HX.out.2.2]
  have hsg:=hno.out
  go_upto_region 15 with fail
  have hb5:Below w3.heap.size w3 (w4.setCell ⟨x,1,none⟩ (.int .u64 sg)):=HX.out.2.1.setCell (p:=⟨x,1,none⟩) (show w3.heap.size <= x by have:=HX.out.1.1;omega) _
  have ox5:=heap_setCell_same w4 x 1 _ _ (.int .u64 sg) HX.out.2.2
  have oy4:(w4.setCell ⟨x,1,none⟩ (.int .u64 sg)).heap[y]? = some (.cells zR 25 (0,0)):=(set_farV HX.out.1.2).trans HO4.out
  clear x0 x1 x2 x3 x4 fx
  change Code.wp _ _ _ _ (w4.setCell ⟨x,1,none⟩ (.int .u64 sg))
  generalize w4.setCell ⟨x,1,none⟩ (.int .u64 sg) = w5 at *
 replace ox5:w5.heap[x]? = some (.cells #[.int .i64 6,.int .u64 sg,.string ⟨#[]⟩,.slice none 0 0,.int .i64 0] 25 (0,0)):=ox5
 rotate_left
 replace ox5:w5.heap[x]? = some (.cells #[.int .i64 7,.int .u64 sg,.string ⟨#[]⟩,.slice none 0 0,.int .i64 0] 25 (0,0)):=ox5
 rotate_left
 replace ox5:w5.heap[x]? = some (.cells #[.int .i64 8,.int .u64 sg,.string ⟨#[]⟩,.slice none 0 0,.int .i64 0] 25 (0,0)):=ox5
 rotate_left
 replace ox5:w5.heap[x]? = some (.cells #[.int .i64 8,.int .u64 sg,.string ⟨#[]⟩,.slice none 0 0,.int .i64 0] 25 (0,0)):=ox5
 rotate_left
 replace ox5:w5.heap[x]? = some (.cells #[.int .i64 9,.int .u64 sg,.string ⟨#[]⟩,.slice none 0 0,.int .i64 0] 25 (0,0)):=ox5
 rotate_left
 replace ox5:w5.heap[x]? = some (.cells #[.int .i64 9,.int .u64 sg,.string ⟨#[]⟩,.slice none 0 0,.int .i64 0] 25 (0,0)):=ox5
 rotate_left
 all_goals
  obtain ⟨x0,x1,x2,x3,x4⟩:=c5 ox5
  have HX5:=zH hb5
  have HO5:=zH oy4
  clear hb5 ox5 hsg
  go_wp2_with (refine stV (.tmp 4) (.tmp 64) rfl rfl rfl rfl rfl oy4 rfl ?_)
 have hh:=setRow_heap w5 y _ #[.int .i64 6,.int .u64 sg,.string ⟨#[]⟩,.slice none 0 0,.int .i64 0] _ _ HO5.out
 have hB:=below_setRow (Below.refl y w5) (Nat.le_refl y) #[.int .i64 6,.int .u64 sg,.string ⟨#[]⟩,.slice none 0 0,.int .i64 0]
 refine bodyPost_ret (results_cell_row (p:=4) (ty:=25) (by kernel_rfl) _ _ y 25 #[.int .i64 6,.int .u64 sg,.string ⟨#[]⟩,.slice none 0 0,.int .i64 0] (0,0) _ rfl hh underlying25 rfl (by as_aux_lemma=>kernel_rfl)) rfl ?_
 rotate_left
 have hh:=setRow_heap w5 y _ #[.int .i64 7,.int .u64 sg,.string ⟨#[]⟩,.slice none 0 0,.int .i64 0] _ _ HO5.out
 have hB:=below_setRow (Below.refl y w5) (Nat.le_refl y) #[.int .i64 7,.int .u64 sg,.string ⟨#[]⟩,.slice none 0 0,.int .i64 0]
 refine bodyPost_ret (results_cell_row (p:=4) (ty:=25) (by kernel_rfl) _ _ y 25 #[.int .i64 7,.int .u64 sg,.string ⟨#[]⟩,.slice none 0 0,.int .i64 0] (0,0) _ rfl hh underlying25 rfl (by as_aux_lemma=>kernel_rfl)) rfl ?_
 rotate_left
 have hh:=setRow_heap w5 y _ #[.int .i64 8,.int .u64 sg,.string ⟨#[]⟩,.slice none 0 0,.int .i64 0] _ _ HO5.out
 have hB:=below_setRow (Below.refl y w5) (Nat.le_refl y) #[.int .i64 8,.int .u64 sg,.string ⟨#[]⟩,.slice none 0 0,.int .i64 0]
 refine bodyPost_ret (results_cell_row (p:=4) (ty:=25) (by kernel_rfl) _ _ y 25 #[.int .i64 8,.int .u64 sg,.string ⟨#[]⟩,.slice none 0 0,.int .i64 0] (0,0) _ rfl hh underlying25 rfl (by as_aux_lemma=>kernel_rfl)) rfl ?_
 rotate_left
 have hh:=setRow_heap w5 y _ #[.int .i64 8,.int .u64 sg,.string ⟨#[]⟩,.slice none 0 0,.int .i64 0] _ _ HO5.out
 have hB:=below_setRow (Below.refl y w5) (Nat.le_refl y) #[.int .i64 8,.int .u64 sg,.string ⟨#[]⟩,.slice none 0 0,.int .i64 0]
 refine bodyPost_ret (results_cell_row (p:=4) (ty:=25) (by kernel_rfl) _ _ y 25 #[.int .i64 8,.int .u64 sg,.string ⟨#[]⟩,.slice none 0 0,.int .i64 0] (0,0) _ rfl hh underlying25 rfl (by as_aux_lemma=>kernel_rfl)) rfl ?_
 rotate_left
 have hh:=setRow_heap w5 y _ #[.int .i64 9,.int .u64 sg,.string ⟨#[]⟩,.slice none 0 0,.int .i64 0] _ _ HO5.out
 have hB:=below_setRow (Below.refl y w5) (Nat.le_refl y) #[.int .i64 9,.int .u64 sg,.string ⟨#[]⟩,.slice none 0 0,.int .i64 0]
 refine bodyPost_ret (results_cell_row (p:=4) (ty:=25) (by kernel_rfl) _ _ y 25 #[.int .i64 9,.int .u64 sg,.string ⟨#[]⟩,.slice none 0 0,.int .i64 0] (0,0) _ rfl hh underlying25 rfl (by as_aux_lemma=>kernel_rfl)) rfl ?_
 rotate_left
 have hh:=setRow_heap w5 y _ #[.int .i64 9,.int .u64 sg,.string ⟨#[]⟩,.slice none 0 0,.int .i64 0] _ _ HO5.out
 have hB:=below_setRow (Below.refl y w5) (Nat.le_refl y) #[.int .i64 9,.int .u64 sg,.string ⟨#[]⟩,.slice none 0 0,.int .i64 0]
 refine bodyPost_ret (results_cell_row (p:=4) (ty:=25) (by kernel_rfl) _ _ y 25 #[.int .i64 9,.int .u64 sg,.string ⟨#[]⟩,.slice none 0 0,.int .i64 0] (0,0) _ rfl hh underlying25 rfl (by as_aux_lemma=>kernel_rfl)) rfl ?_
 rotate_left
 all_goals
  refine ⟨rfl,?_⟩
  have hm3:=(RdMv.before HBd.out.1 HMV.out).after HX5.out
  have hyr:r ≠ y:=fun e=>by have:=hlt.out;have:=HBd.out.2.1;omega
  exact ⟨⟨hm3.keep.os,hm3.keep.tape,hm3.keep.output,Nat.le_trans hm3.keep.size (by simp),fun j hj hne=>(setRow_other w5 y j _ (fun e=>by have:=HBd.out.2.1;omega)).trans (hm3.keep.block j hj hne)⟩,(setRow_other w5 y r _ hyr).trans hm3.at_⟩
def fixed_6_1:=fun c sg hclt=>(mrg_fixed_6_1 c sg hclt).1
def fixed_7_2:=fun c sg hclt=>(mrg_fixed_6_1 c sg hclt).2.1
def fixed_8_1:=fun c sg hclt=>(mrg_fixed_6_1 c sg hclt).2.2.1
def fixed_8_4:=fun c sg hclt=>(mrg_fixed_6_1 c sg hclt).2.2.2.1
def fixed_9_1:=fun c sg hclt=>(mrg_fixed_6_1 c sg hclt).2.2.2.2.1
def fixed_9_8:=fun c sg hclt=>(mrg_fixed_6_1 c sg hclt).2.2.2.2.2
end Go.Proofs.YtnnnfhobbnjmfaaGreatDoor
