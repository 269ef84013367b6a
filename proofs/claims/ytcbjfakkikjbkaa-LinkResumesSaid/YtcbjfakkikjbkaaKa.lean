/-
  A delivery's states: by their parts, and as they lie in memory. Plain lemmas. No conditions.
-/
import Derived.Test.YtcbjfakkikjbkaaVg
import Derived.Test.YtcbjfakkikjbkaaSr
namespace Go.Proofs.Ytcbjfakkikjbkaa
open Go.RowKit
set_option linter.all false

/-- a delivery's state -/
inductive St where
  | mk (kind sec off : Int) (cond text : ByteArray) (info : V) (failed els : Bool) (ann : V) (txn : ByteArray) (inner : List St)

def St.kind : St → Int | .mk x _ _ _ _ _ _ _ _ _ _ => x
def St.sec : St → Int | .mk _ x _ _ _ _ _ _ _ _ _ => x
def St.off : St → Int | .mk _ _ x _ _ _ _ _ _ _ _ => x
def St.cond : St → ByteArray | .mk _ _ _ x _ _ _ _ _ _ _ => x
def St.text : St → ByteArray | .mk _ _ _ _ x _ _ _ _ _ _ => x
def St.info : St → V | .mk _ _ _ _ _ x _ _ _ _ _ => x
def St.failed : St → Bool | .mk _ _ _ _ _ _ x _ _ _ _ => x
def St.els : St → Bool | .mk _ _ _ _ _ _ _ x _ _ _ => x
def St.ann : St → V | .mk _ _ _ _ _ _ _ _ x _ _ => x
def St.txn : St → ByteArray | .mk _ _ _ _ _ _ _ _ _ x _ => x
def St.inner : St → List St | .mk _ _ _ _ _ _ _ _ _ _ x => x

mutual
/-- how many states stand in one -/
def St.w : St → Nat
  | .mk _ _ _ _ _ _ _ _ _ _ l => 1 + stws l
def stws : List St → Nat
  | [] => 0
  | s :: r => s.w + stws r
end
theorem St.w_eq (s : St) : s.w = 1 + stws s.inner := by cases s; simp [St.w, St.inner]
theorem St.w_pos (s : St) : 1 ≤ s.w := by rw [St.w_eq]; omega
theorem stws_mem {s : St} {l : List St} (h : s ∈ l) : s.w ≤ stws l := by
  induction l with
  | nil => cases h
  | cons a r ih =>
    simp only [stws]
    rcases List.mem_cons.1 h with rfl | h
    · omega
    · have := ih h; omega
theorem len_le_stws (l : List St) : l.length ≤ stws l := by
  induction l with
  | nil => exact Nat.le_refl _
  | cons a r ih => have := a.w_pos; simp only [stws, List.length_cons]; omega
theorem stws_take (l : List St) (k : Nat) (h : k < l.length) : stws (l.take (k + 1)) = stws (l.take k) + l[k].w := by
  induction l generalizing k with
  | nil => simp at h
  | cons a r ih =>
    cases k with
    | zero => simp [stws]
    | succ k => simp only [List.take_succ_cons, stws, List.getElem_cons_succ]; rw [ih k (by simpa using h)]; omega
theorem St.w_lt {s x : St} (h : x ∈ s.inner) : x.w < s.w := by rw [s.w_eq]; have := stws_mem h; omega
/-- by the parts -/
theorem St.ind {P : St → Prop} (h : ∀ s, (∀ x ∈ s.inner, P x) → P s) : ∀ s, P s := by
  intro s
  induction hn : s.w using Nat.strongRecOn generalizing s with
  | ind n ih => exact h s (fun x hx => ih x.w (by rw [← hn]; exact St.w_lt hx) x rfl)
theorem St.ext {a b : St} (h1 : a.kind = b.kind) (h2 : a.sec = b.sec) (h3 : a.off = b.off) (h4 : a.cond = b.cond) (h5 : a.text = b.text) (h6 : a.info = b.info) (h7 : a.failed = b.failed) (h8 : a.els = b.els) (h9 : a.ann = b.ann) (h10 : a.txn = b.txn) (h11 : a.inner = b.inner) : a = b := by
  cases a; cases b; simp_all [St.kind, St.sec, St.off, St.cond, St.text, St.info, St.failed, St.els, St.ann, St.txn, St.inner]
noncomputable instance : DecidableEq St := fun a b => Classical.propDecidable (a = b)
def zV : V := .mk 0 0 ⟨#[]⟩ [] 0
def zS : St := .mk 0 0 0 ⟨#[]⟩ ⟨#[]⟩ zV false false zV ⟨#[]⟩ []
instance : Inhabited St := ⟨zS⟩

/-- no value in it has very many parts -/
inductive St.Fine : St → Prop
  | mk (s : St) (hi : s.info.wt ≤ 1000000) (ha : s.ann.wt ≤ 1000000) (hn : ∀ x ∈ s.inner, St.Fine x) : St.Fine s
theorem St.Fine.i {s : St} (h : s.Fine) : s.info.wt ≤ 1000000 := by cases h; assumption
theorem St.Fine.a {s : St} (h : s.Fine) : s.ann.wt ≤ 1000000 := by cases h; assumption
theorem St.Fine.n {s : St} (h : s.Fine) : ∀ x ∈ s.inner, x.Fine := by cases h; assumption
theorem zV_wt : zV.wt ≤ 1000000 := by rw [V.wt_eq]; simp [zV, V.text, V.list, wts, ByteArray.size]
theorem zS_fine : zS.Fine := .mk _ zV_wt zV_wt (fun x hx => by simp [zS, St.inner] at hx)

/-- a state's own fields -/
structure St.Wf (s : St) : Prop where
  k : IsI64 s.kind
  e : IsI64 s.sec
  o : IsI64 s.off
  c : s.cond.size ≤ maxLen
  t : s.text.size ≤ maxLen
  x : s.txn.size ≤ maxLen

/-- what a state's lists' cells hold -/
structure Sl where
  i : Value
  a : Value
  l : Value
instance : Inhabited Sl := ⟨⟨.slice none 0 0, .slice none 0 0, .slice none 0 0⟩⟩

def sarr (s : St) (t : Sl) : Array Value := #[.int .i64 s.kind, .int .i64 s.sec, .int .i64 s.off, .string s.cond, .string s.text, .int .i64 s.info.kind, .int .u64 s.info.num, .string s.info.text, t.i, .int .i64 s.info.elem, .bool s.failed, .bool s.els, .int .i64 s.ann.kind, .int .u64 s.ann.num, .string s.ann.text, t.a, .int .i64 s.ann.elem, .string s.txn, t.l]
def scells (s : St) (t : Sl) : List Value := (sarr s t).toList
theorem scells_len (s : St) (t : Sl) : (scells s t).length = 19 := rfl
def srow : List St → (Nat → Sl) → List Value
  | [], _ => []
  | s :: r, ss => scells s (ss 0) ++ srow r (fun i => ss (i + 1))
theorem srow_len : ∀ (l : List St) (ss : Nat → Sl), (srow l ss).length = l.length * 19
  | [], _ => rfl
  | v :: r, ss => by rw [srow, List.length_append, srow_len r, scells_len, List.length_cons]; omega
theorem srow_get : ∀ (l : List St) (ss : Nat → Sl) (i j : Nat) (h : i < l.length), j < 19 → (srow l ss)[i * 19 + j]? = (scells l[i] (ss i))[j]?
  | [], _, i, _, h, _ => by simp at h
  | v :: r, ss, i, j, h, hj => by
    rw [srow]
    cases i with
    | zero => rw [List.getElem?_append_left (by rw [scells_len]; omega)]; simp
    | succ i =>
      rw [List.getElem?_append_right (by rw [scells_len]; omega), scells_len, show (i + 1) * 19 + j - 19 = i * 19 + j by omega]
      have := srow_get r (fun i => ss (i + 1)) i j (by simpa using h) hj
      simpa using this
theorem srow_congr : ∀ (l : List St) (ss tt : Nat → Sl), (∀ i, i < l.length → ss i = tt i) → srow l ss = srow l tt
  | [], _, _, _ => rfl
  | v :: r, ss, tt, h => by
    rw [srow, srow, h 0 (by simp), srow_congr r _ (fun i => tt (i + 1)) (fun i hi => h (i + 1) (by simpa using hi))]
theorem srow_snoc : ∀ (l : List St) (x : St) (ss : Nat → Sl), srow (l ++ [x]) ss = srow l ss ++ scells x (ss l.length)
  | [], x, ss => by simp [srow]
  | v :: r, x, ss => by rw [List.cons_append, srow, srow, srow_snoc r x, List.append_assoc]; rfl

/-- a state that lies in memory -/
inductive SIn (w : World) : St → Sl → Prop
  | mk (s : St) (t : Sl) (p : Option Addr) (c : Nat) (ss : Nat → Sl) (wf : s.Wf) (hi : VIn w s.info t.i) (ha : VIn w s.ann t.a) (hl : t.l = .slice p s.inner.length c) (hc : s.inner.length ≤ c) (hm : c ≤ maxLen) (hp : 0 < s.inner.length → ∃ b o, p = some ⟨b, o, none⟩)
      (hcell : ∀ b o, p = some ⟨b, o, none⟩ → ∀ i (h : i < s.inner.length), w.rangeAt b (o + i * 19) (scells s.inner[i] (ss i))) (hin : ∀ i (h : i < s.inner.length), SIn w s.inner[i] (ss i)) : SIn w s t

section
variable {w w' : World} {s : St} {t : Sl} {v : V} {u : Value} {G G' : Nat → Prop}

theorem SIn.wf (h : SIn w s t) : s.Wf := by cases h; assumption
theorem SIn.i (h : SIn w s t) : VIn w s.info t.i := by cases h; assumption
theorem SIn.a (h : SIn w s t) : VIn w s.ann t.a := by cases h; assumption
theorem SIn.slice (h : SIn w s t) : ∃ p c, t.l = .slice p s.inner.length c ∧ s.inner.length ≤ c ∧ c ≤ maxLen ∧ (0 < s.inner.length → ∃ b o, p = some ⟨b, o, none⟩) := by
  cases h with
  | mk _ _ p c ss wf hi ha hl hc hm hp hcell hin => exact ⟨p, c, hl, hc, hm, hp⟩
theorem SIn.part (h : SIn w s t) {b o n c : Nat} (hs : t.l = .slice (some ⟨b, o, none⟩) n c) {i : Nat} (hi : i < s.inner.length) : ∃ x, w.rangeAt b (o + i * 19) (scells s.inner[i] x) ∧ SIn w s.inner[i] x := by
  cases h with
  | mk _ _ p c' ss wf hi' ha hl hc hm hp hcell hin =>
    rw [hl] at hs
    simp only [Value.slice.injEq] at hs
    exact ⟨ss i, hcell b o hs.1 i hi, hin i hi⟩
theorem VIn.far (h : VIn w v u) (hb : ∀ b, b < w.heap.size → w'.heap[b]? = w.heap[b]?) : VIn w' v u := by
  induction h with
  | mk v p c ss wf hc hm ha hcell hin ih =>
    exact .mk v p c ss wf hc hm ha (fun b o e i hi j u hu => by
      have hh := hcell b o e i hi j u hu
      exact (World.cell?_of_block (hb _ (World.block_lt_of_cell? w _ hh))).trans hh) ih
theorem SIn.far (h : SIn w s t) (hb : ∀ b, b < w.heap.size → w'.heap[b]? = w.heap[b]?) : SIn w' s t := by
  induction h with
  | mk s t p c ss wf hi ha hl hc hm hp hcell hin ih =>
    exact .mk s t p c ss wf (hi.far hb) (ha.far hb) hl hc hm hp (fun b o e i hi j u hu => by
      have hh := hcell b o e i hi j u hu
      exact (World.cell?_of_block (hb _ (World.block_lt_of_cell? w _ hh))).trans hh) ih
theorem SIn.blw (h : SIn w s t) (hb : Below w.heap.size w w') : SIn w' s t := h.far (fun b q => hb.block b q)

/-- .. whatever else turns but these blocks -/
def SI (w : World) (G : Nat → Prop) (s : St) (t : Sl) : Prop := ∀ w', (∀ b, G b → w'.heap[b]? = w.heap[b]?) → SIn w' s t
theorem SI.sin (h : SI w G s t) : SIn w s t := h w (fun _ _ => rfl)
theorem SI.keep (h : SI w G s t) (e : ∀ b, G b → w'.heap[b]? = w.heap[b]?) : SI w' G s t := fun x hx => h x (fun b q => (hx b q).trans (e b q))
theorem SI.wide (h : SI w G s t) (e : ∀ b, G b → G' b) : SI w G' s t := fun x hx => h x (fun b q => hx b (e b q))
theorem SIn.si (h : SIn w s t) : SI w (fun b => b < w.heap.size) s t := fun x hx => h.far hx
theorem zV_wf : zV.Wf := ⟨⟨by show (-9223372036854775808 : Int) ≤ 0; omega, by show (0 : Int) ≤ 9223372036854775807; omega⟩, ⟨by show (0 : Int) ≤ 0; omega, by show (0 : Int) ≤ 18446744073709551615; omega⟩, Nat.zero_le _, ⟨by show (-9223372036854775808 : Int) ≤ 0; omega, by show (0 : Int) ≤ 9223372036854775807; omega⟩⟩
theorem zV_in (w : World) : VIn w zV (.slice none 0 0) :=
  .mk zV none 0 (fun _ => undef) zV_wf (Nat.le_refl _) (Nat.zero_le _) (fun h => by simp [zV, V.list] at h) (fun b o e => by cases e) (fun i h => by simp [zV, V.list] at h)
theorem zS_wf : zS.Wf := ⟨⟨by show (-9223372036854775808 : Int) ≤ 0; omega, by show (0 : Int) ≤ 9223372036854775807; omega⟩, ⟨by show (-9223372036854775808 : Int) ≤ 0; omega, by show (0 : Int) ≤ 9223372036854775807; omega⟩, ⟨by show (-9223372036854775808 : Int) ≤ 0; omega, by show (0 : Int) ≤ 9223372036854775807; omega⟩, Nat.zero_le _, Nat.zero_le _, Nat.zero_le _⟩
theorem zS_in (w : World) : SIn w zS default :=
  .mk zS default none 0 (fun _ => default) zS_wf (zV_in w) (zV_in w) rfl (Nat.le_refl _) (Nat.zero_le _) (fun h => by simp [zS, St.inner] at h) (fun b o e => by cases e) (fun i h => by simp [zS, St.inner] at h)
theorem zS_si (w : World) : SI w (fun _ => False) zS default := fun x _ => zS_in x
end
end Go.Proofs.Ytcbjfakkikjbkaa
