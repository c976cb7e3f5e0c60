/-
  Data with slices inside that a call made afresh: read as data; of a shape that writing numbers into them does not turn.
-/
import Derived.Test.YtanlaggnhocjhaaGreatFun
namespace Go.Proofs.YtanlaggnhocjhaaGreat
set_option linter.unusedSimpArgs false
set_option linter.unusedVariables false
open Go.RowKit

/-! ### Cells of one kind -/
def SameK (u u' : Value) : Prop := match u with
  | .int .i64 _ => ∃ n, u' = .int .i64 n
  | .bool _ => ∃ b, u' = .bool b
  | .string _ => ∃ s, u' = .string s
  | u => u' = u
theorem SameK.refl (u : Value) : SameK u u := by
  unfold SameK
  split <;> first | exact ⟨_, rfl⟩ | rfl
theorem SameK.trans {a b c : Value} (h : SameK a b) (k : SameK b c) : SameK a c := by
  unfold SameK at h
  split at h
  · obtain ⟨n, rfl⟩ := h; exact k
  · obtain ⟨n, rfl⟩ := h; exact k
  · obtain ⟨n, rfl⟩ := h; exact k
  · subst h; exact k
theorem SameK.symm {a b : Value} (h : SameK a b) : SameK b a := by
  unfold SameK at h
  split at h
  · obtain ⟨n, rfl⟩ := h; exact ⟨_, rfl⟩
  · obtain ⟨n, rfl⟩ := h; exact ⟨_, rfl⟩
  · obtain ⟨n, rfl⟩ := h; exact ⟨_, rfl⟩
  · subst h; exact SameK.refl _
def LK (cs cs' : List Value) : Prop := cs'.length = cs.length ∧ ∀ (j : Nat) u, cs[j]? = some u → ∃ u', cs'[j]? = some u' ∧ SameK u u'
theorem LK.refl (cs : List Value) : LK cs cs := ⟨rfl, fun _ u h => ⟨u, h, SameK.refl u⟩⟩
theorem LK.trans {a b c : List Value} (h : LK a b) (k : LK b c) : LK a c := ⟨k.1.trans h.1, fun j u hu => by
  obtain ⟨u1, h1, h2⟩ := h.2 j u hu
  obtain ⟨u2, h3, h4⟩ := k.2 j u1 h1
  exact ⟨u2, h3, h2.trans h4⟩⟩
theorem LK.sub {cs cs' : List Value} (h : LK cs cs') (o k : Nat) : LK ((cs.drop o).take k) ((cs'.drop o).take k) := ⟨by simp [h.1], fun j u hu => by
  have hj : j < k := by
    have := (List.getElem?_eq_some_iff.1 hu).1
    simp at this; omega
  rw [List.getElem?_take, if_pos hj, List.getElem?_drop] at hu ⊢
  exact h.2 _ u hu⟩
theorem LK.cat {c1 c2 cs' : List Value} (h : LK (c1 ++ c2) cs') : ∃ d1 d2, cs' = d1 ++ d2 ∧ LK c1 d1 ∧ LK c2 d2 := by
  have h1 := h.sub 0 c1.length
  have h2 := h.sub c1.length c2.length
  rw [List.drop_zero, List.take_left, List.drop_zero] at h1
  rw [List.drop_left, List.take_length] at h2
  refine ⟨_, _, (List.take_append_drop c1.length cs').symm, h1, ?_⟩
  rw [List.take_of_length_le (by simp [h.1])] at h2
  exact h2
theorem LK.one {u : Value} {cs' : List Value} (h : LK [u] cs') : ∃ u', cs' = [u'] ∧ SameK u u' := by
  obtain ⟨u', h1, h2⟩ := h.2 0 u rfl
  obtain ⟨h3, _⟩ := h
  match cs', h3 with
  | [x], _ => simp at h1; subst h1; exact ⟨_, rfl, h2⟩

/-- From w to w' cells of blocks of S have turned, each into one of its kind; nothing else has. -/
structure Tn (S : Nat → Prop) (w w' : World) : Prop where
  keep : Keep S w w'
  blk : ∀ g t cs, Blk w g t cs → ∃ cs', Blk w' g t cs' ∧ LK cs cs'
theorem Tn.refl {S : Nat → Prop} (w : World) : Tn S w w := ⟨Keep.refl w, fun _ _ cs h => ⟨cs, h, LK.refl cs⟩⟩
theorem Tn.of_ext {S : Nat → Prop} {w w' : World} (h : Ext w w') : Tn S w w' := ⟨Keep.of_ext h, fun _ _ cs hb => ⟨cs, hb.ext h, LK.refl cs⟩⟩
theorem Tn.trans {S : Nat → Prop} {a b c : World} (h : Tn S a b) (k : Tn S b c) : Tn S a c := ⟨h.keep.trans k.keep, fun g t cs hb => by
  obtain ⟨c1, h1, h2⟩ := h.blk g t cs hb
  obtain ⟨c2, h3, h4⟩ := k.blk g t c1 h1
  exact ⟨c2, h3, h2.trans h4⟩⟩
theorem upC_tn {S : Nat → Prop} {w : World} : UpC (Tn S w) := fun _ _ h he => h.trans (Tn.of_ext he)
theorem Tn.put {S : Nat → Prop} {w : World} {g : Nat} {t : TypeId} {cs : List Value} {o : Nat} {u v : Value} (hb : Blk w g t cs) (hg : S g) (hu : cs[o]? = some u) (hk : SameK u v) : Tn S w (w.setRow g (putL cs o [v]).toArray) := by
  have ho : o < cs.length := (List.getElem?_eq_some_iff.1 hu).1
  refine ⟨(Keep.refl w).row hg _, fun g' t' cs' hb' => ?_⟩
  by_cases e : g' = g
  · subst e
    unfold Blk at hb hb'
    rw [hb] at hb'
    injection hb' with hb'
    injection hb' with h1 h2 h3
    have h1' : cs = cs' := by simpa using congrArg Array.toList h1
    subst h1' h2
    refine ⟨_, Blk.set_ hb _, putL_length (by simp; omega), fun j u' hu' => ?_⟩
    by_cases e : j = o
    · subst e
      rw [hu] at hu'
      injection hu' with hu'
      subst hu'
      exact ⟨v, putL_in (j := 0) (by simp; omega) rfl, hk⟩
    · exact ⟨u', by rw [putL_out (by simp; omega) (by simp; omega)]; exact hu', SameK.refl _⟩
  · exact ⟨cs', hb'.far e _, LK.refl _⟩

/-! ### Shapes -/
structure Shp where
  k : Nat
  φ : (Nat → Prop) → List Value → World → Prop
  len : ∀ S cs w, φ S cs w → cs.length = k
  up : ∀ S cs cs' w w', φ S cs w → Tn S w w' → LK cs cs' → φ S cs' w'
def sI : Shp := ⟨1, fun _ cs _ => ∃ n, cs = [.int .i64 n], fun _ _ _ ⟨n, h⟩ => by rw [h]; rfl, fun _ cs cs' _ _ ⟨n, h⟩ _ hl => by
  subst h
  obtain ⟨u', rfl, m, rfl⟩ := hl.one
  exact ⟨m, rfl⟩⟩
def sStr : Shp := ⟨1, fun _ cs _ => ∃ n, cs = [.string n], fun _ _ _ ⟨n, h⟩ => by rw [h]; rfl, fun _ cs cs' _ _ ⟨n, h⟩ _ hl => by
  subst h
  obtain ⟨u', rfl, m, rfl⟩ := hl.one
  exact ⟨m, rfl⟩⟩
def sNil : Shp := ⟨0, fun _ cs _ => cs = [], fun _ _ _ h => by rw [h]; rfl, fun _ cs cs' _ _ h _ hl => by
  subst h
  exact List.eq_nil_of_length_eq_zero hl.1⟩
def sCat (σ τ : Shp) : Shp := ⟨σ.k + τ.k, fun S cs w => ∃ c1 c2, cs = c1 ++ c2 ∧ σ.φ S c1 w ∧ τ.φ S c2 w, fun S cs w ⟨c1, c2, h, h1, h2⟩ => by rw [h, List.length_append, σ.len _ _ _ h1, τ.len _ _ _ h2], fun S cs cs' w w' ⟨c1, c2, h, h1, h2⟩ ht hl => by
  subst h
  obtain ⟨d1, d2, rfl, l1, l2⟩ := hl.cat
  exact ⟨d1, d2, rfl, σ.up _ _ _ _ _ h1 ht l1, τ.up _ _ _ _ _ h2 ht l2⟩⟩
def ShS (σ : Shp) (S : Nat → Prop) (v : Value) (w : World) : Prop :=
  ∃ (A : Option Addr) (n c : Nat), v = .slice A n c ∧ n ≤ 1048576 ∧ (0 < n → ∃ b t cs, A = some ⟨b, 0, none⟩ ∧ S b ∧ Blk w b t cs ∧ ∀ i, i < n → σ.φ S ((cs.drop (i * σ.k)).take σ.k) w)
theorem ShS.up {σ : Shp} {S : Nat → Prop} {v : Value} {w w' : World} (h : ShS σ S v w) (ht : Tn S w w') : ShS σ S v w' := by
  obtain ⟨A, n, c, rfl, hn, h⟩ := h
  refine ⟨A, n, c, rfl, hn, fun hp => ?_⟩
  obtain ⟨b, t, cs, hA, hS, hb, hall⟩ := h hp
  obtain ⟨cs', hb', hl⟩ := ht.blk _ _ _ hb
  exact ⟨b, t, cs', hA, hS, hb', fun i hi => σ.up _ _ _ _ _ (hall i hi) ht (hl.sub _ _)⟩
def sS (σ : Shp) : Shp := ⟨1, fun S cs w => ∃ v, cs = [v] ∧ ShS σ S v w, fun _ _ _ ⟨v, h, _⟩ => by rw [h]; rfl, fun S cs cs' w w' ⟨v, h, hs⟩ ht hl => by
  subst h
  obtain ⟨u', rfl, hk⟩ := hl.one
  have hs2 := hs
  obtain ⟨A, n, c, rfl, _⟩ := hs
  have hk' : u' = .slice A n c := hk
  subst hk'
  exact ⟨_, rfl, hs2.up ht⟩⟩
def ShA (σ : Shp) (S : Nat → Prop) (v : Value) (w : World) : Prop := ∃ cs : List Value, v = .agg cs.toArray ∧ σ.φ S cs w
def PrS (σ : Shp) (off : Nat) (τ : Shp) : Prop := ∀ S cs w, σ.φ S cs w → ∃ c, (∀ (j : Nat) u, c[j]? = some u → cs[off + j]? = some u) ∧ τ.φ S c w
theorem PrS.self {σ : Shp} : PrS σ 0 σ := fun S cs w h => ⟨cs, fun j u hu => by rw [Nat.zero_add]; exact hu, h⟩
theorem PrS.head {σ τ : Shp} : PrS (sCat σ τ) 0 σ := fun S cs w ⟨c1, c2, h, h1, h2⟩ => ⟨c1, fun j u hu => by
  rw [Nat.zero_add, h, List.getElem?_append_left (List.getElem?_eq_some_iff.1 hu).1]
  exact hu, h1⟩
theorem PrS.tail {σ τ ρ : Shp} {off : Nat} (hp : PrS τ off ρ) : PrS (sCat σ τ) (σ.k + off) ρ := fun S cs w ⟨c1, c2, h, h1, h2⟩ => by
  obtain ⟨c, hc, hφ⟩ := hp _ _ _ h2
  refine ⟨c, fun j u hu => ?_, hφ⟩
  rw [h, List.getElem?_append_right (by rw [σ.len _ _ _ h1]; omega), σ.len _ _ _ h1, Nat.add_assoc, Nat.add_sub_cancel_left]
  exact hc j u hu
theorem ShS.at {σ τ : Shp} {S : Nat → Prop} {w : World} {b n c i off : Nat} (h : ShS σ S (.slice (some ⟨b, 0, none⟩) n c) w) (hi : i < n) (hp : PrS σ off τ) :
    ∃ t cs d, Blk w b t cs ∧ S b ∧ (∀ (j : Nat) u, d[j]? = some u → cs[i * σ.k + off + j]? = some u) ∧ τ.φ S d w := by
  obtain ⟨A, n', c', he, hn, h⟩ := h
  injection he with h1 h2 h3
  subst h2
  obtain ⟨b', t, cs, hA, hS, hb, hall⟩ := h (by omega)
  subst hA
  have h1' : (⟨b, 0, none⟩ : Addr) = ⟨b', 0, none⟩ := by injection h1
  injection h1' with h4
  subst h4
  obtain ⟨d, hd, hφ⟩ := hp _ _ _ (hall i hi)
  refine ⟨t, cs, d, hb, hS, fun j u hu => ?_, hφ⟩
  rw [Nat.add_assoc]
  exact take_drop_get (hd j u hu)
theorem ShS.some_ {σ : Shp} {S : Nat → Prop} {w : World} {A : Option Addr} {n c : Nat} (h : ShS σ S (.slice A n c) w) (hp : 0 < n) : ∃ b, A = some ⟨b, 0, none⟩ := by
  obtain ⟨A', n', c', he, hn, h⟩ := h
  injection he with h1 h2 h3
  subst h2
  obtain ⟨b', t, cs, hA, _⟩ := h hp
  subst hA
  exact ⟨b', h1⟩

/-! ### A call that writes -/
def MKX (P : Program) (f : FuncId) (V : (Nat → Prop) → Value → World → Prop) (B : Int) : Prop :=
  ∀ (w : World) (v : Value) (S : Nat → Prop) (k : Int), V S v w → (∀ b, S b → b < w.heap.size) → 0 ≤ k ∧ k + B ≤ 9000000000000000000 → Calls P f #[v, .int .i64 k] w fun e w' => ∃ k' : Int, e = .returned (.int .i64 k') ∧ (k ≤ k' ∧ k' ≤ k + B) ∧ Tn S w w'
def uSh (S : Nat → Prop) (σ : Shp) : UR := ⟨fun v w => ShS σ S v w, fun _ _ _ he h => h.up (Tn.of_ext he)⟩
def uBx (s : Nat) (t : TypeId) (cs : List Value) : UR := ⟨fun v w => ∃ g, v = .pointer (some ⟨g, 0, none⟩) ∧ s ≤ g ∧ Blk w g t cs, fun _ _ _ he ⟨g, h1, h2, h3⟩ => ⟨g, h1, h2, h3.ext he⟩⟩

section
variable {P : Program} {ops : Array Oper} {C : World → Prop} {Q : Exit → Act → World → Prop} {N : Nat} {M : List (Nat × Pr) → List Oper → Prop} {K : List (Nat × Pr)} {rest : List Oper} {d : Nat} {op : Op} {ty : TypeId} {pos : String} {af : Array Edge} {g : Option (Nat × Bool)}
theorem MKX_of {f : FuncId} {fn : Func} {c : Code} {V : (Nat → Prop) → Value → World → Prop} {B : Int} (hf : P.funcs[f]? = some fn) (hb : fn.body = some c) (hN : fn.ntmps = N) (hps : Nat.ble 2 N = true)
    (h : ∀ w v S k, V S v w → (∀ b, S b → b < w.heap.size) → (0 ≤ k ∧ k + B ≤ 9000000000000000000) → Hc P N [(0, .inl v), (1, .inl (.int .i64 k))] (Tn S w) c (bodyPost P fn (fun e w' => ∃ k' : Int, e = .returned (.int .i64 k') ∧ (k ≤ k' ∧ k' ≤ k + B) ∧ Tn S w w'))) : MKX P f V B := fun w v S k hV hS hk => by
  have hle := Nat.le_of_ble_eq_true hps
  refine calls_of_wp hf hb ((h w v S k hV hS hk).out _ _ ⟨by simp; omega, rfl, fun t p hp => ?_, Tn.refl w⟩)
  by_cases e0 : 0 = t
  · subst e0
    rw [lookK_same] at hp
    injection hp with hp
    subst hp
    exact ⟨v, by rw [Array.getElem?_append_left (by simp)]; rfl, rfl⟩
  by_cases e1 : 1 = t
  · subst e1
    rw [lookK_ne _ e0, lookK_same] at hp
    injection hp with hp
    subst hp
    exact ⟨_, by rw [Array.getElem?_append_left (by simp)]; rfl, rfl⟩
  rw [lookK_ne _ e0, lookK_ne _ e1] at hp
  cases hp
theorem R_mkx {fn : Func} {t : Nat} {k k' B : Int} {S : Nat → Prop} {w : World} (hres : fn.results = #[.tmp t]) (ht : lookK K t = some (.inl (.int .i64 k'))) (hk : k ≤ k' ∧ k' ≤ k + B) (hC : ∀ w', C w' → Tn S w w') :
    Go_ N K C (bodyPost P fn (fun e w' => ∃ k' : Int, e = .returned (.int .i64 k') ∧ (k ≤ k' ∧ k' ≤ k + B) ∧ Tn S w w') .ret) := .of fun a w hst => by
  have h : a.tmps.getD t undef = .int .i64 k' := hst.get ht
  exact ⟨hst.defers, _, results_tmp hres _ _ _, k', by rw [h], hk, hC _ hst.cls⟩
theorem Sq_callM {f : FuncId} {V : (Nat → Prop) → Value → World → Prop} {B k : Int} {X Y : Operand} {ats : Array TypeId} {p : Pr} {S : Nat → Prop} {w0 : World} (hmk : MKX P f V B) (hX : kn K X = some p) (hV : ∀ v w, Tn S w0 w → p.ok v w → V S v w) (hS : ∀ b, S b → b < w0.heap.size) (hN : Nat.blt d N = true)
    (hy : kn K Y = some (.inl (.int .i64 k))) (hk : 0 ≤ k ∧ k + B ≤ 9000000000000000000) (hB : callB P f = true)
    (h : ∀ k' : Int, k ≤ k' ∧ k' ≤ k + B → Sq P ops N (Tn S w0) Q ((d, .inl (.int .i64 k')) :: dropR K) rest) : Sq P ops N (Tn S w0) Q K (⟨some d, .call { callee := .value (.func f), args := #[X, Y], argTypes := ats }, ty, pos, af, none⟩ :: rest) := by
  unfold Sq
  intro a w hst
  refine wpList_plain rfl fun K' hK' => ?_
  unfold Oper.wp
  rw [run_call hB rfl]
  simp only [Oper.upon]
  have hk' : a.eval Y = .int .i64 k := kn_val hst hy
  have hcls : Tn S w0 w := hst.cls
  have := hmk w (a.eval X) S k (hV _ _ hcls (kn_val hst hX)) (fun b hb => Nat.lt_of_lt_of_le (hS b hb) hcls.keep.size) hk
  have e : (#[X, Y] : Array Operand).map a.eval = #[a.eval X, .int .i64 k] := by simp [hk']
  rw [e]
  refine this.mono fun e w' ⟨k1, he, hb, ht⟩ => ?_
  subst he
  have hsq := h k1 hb
  unfold Sq at hsq
  have hst1 := hst.turned (w' := w') (C' := Tn S w0) (hcls.trans ht)
  have hext := hst1.step (d := d) (R := .inl (.int .i64 k1)) (v := .int .i64 k1) upC_tn (Ext.refl _) (Nat.le_of_ble_eq_true hN) rfl
  exact hK' _ _ (hsq _ _ hext)
/-- .. from a law: the class begins anew. -/
theorem Sq_markX {f : FuncId} {V : (Nat → Prop) → Value → World → Prop} {B k : Int} {X Y : Operand} {ats : Array TypeId} {v : Value} {S : Nat → Prop} (hmk : MKX P f V B) (hc : ∀ w, C w → V S v w ∧ ∀ b, S b → b < w.heap.size) (hN : Nat.blt d N = true) (hX : kn K X = some (.inl v))
    (hy : kn K Y = some (.inl (.int .i64 k))) (hk : 0 ≤ k ∧ k + B ≤ 9000000000000000000) (hB : callB P f = true)
    (h : ∀ (k' : Int) w w', k ≤ k' ∧ k' ≤ k + B → C w → Tn S w w' → Sq P ops N (Ext w') Q ((d, .inl (.int .i64 k')) :: dropR K) rest) : Sq P ops N C Q K (⟨some d, .call { callee := .value (.func f), args := #[X, Y], argTypes := ats }, ty, pos, af, none⟩ :: rest) := by
  unfold Sq
  intro a w hst
  refine wpList_plain rfl fun K' hK' => ?_
  unfold Oper.wp
  rw [run_call hB rfl]
  simp only [Oper.upon]
  have hk' : a.eval Y = .int .i64 k := kn_val hst hy
  have hv : a.eval X = v := kn_val hst hX
  obtain ⟨h1, h2⟩ := hc w hst.cls
  have := hmk w v S k h1 h2 hk
  have e : (#[X, Y] : Array Operand).map a.eval = #[v, .int .i64 k] := by simp [hk', hv]
  rw [e]
  refine this.mono fun e w' ⟨k1, he, hb, ht⟩ => ?_
  subst he
  have hsq := h k1 w w' hb hst.cls ht
  unfold Sq at hsq
  have hst1 := hst.turned (w' := w') (C' := Ext w') (Ext.refl _)
  have hext := hst1.step (d := d) (R := .inl (.int .i64 k1)) (v := .int .i64 k1) (fun _ _ h k => h.trans k) (Ext.refl _) (Nat.le_of_ble_eq_true hN) rfl
  exact hK' _ _ (hsq _ _ hext)
theorem Sq_storeT {S : Nat → Prop} {w0 : World} {σ τ : Shp} {b n c i off o : Nat} {t : TypeId} {x y : Operand} {u : Value} (hV : ShS σ S (.slice (some ⟨b, 0, none⟩) n c) w0) (hi : i < n) (hp : PrS σ off τ) (hτ : ∀ S d w, τ.φ S d w → ∃ u', d = [u'] ∧ SameK u' u) (hu : u.oneCell' = true)
    (hsz : allocB P t 1 = true) (hy : kn K y = some (.inl (.pointer (some ⟨b, o, none⟩)))) (ho : o = i * σ.k + off) (hx : kn K x = some (.inl u))
    (h : Sq P ops N (Tn S w0) Q (dropR K) rest) : Sq P ops N (Tn S w0) Q K (⟨none, .store t y x, ty, pos, af, none⟩ :: rest) := by
  subst ho
  obtain ⟨t', cs0, d0, hb0, hSb, hd0, hφ0⟩ := hV.at hi hp
  obtain ⟨u0, rfl, hk0⟩ := hτ _ _ _ hφ0
  have hu0 : cs0[i * σ.k + off]? = some u0 := hd0 0 u0 rfl
  refine Sq_storeX (C' := Tn S w0) (e := t') hsz hy (fun a w hst => ?_) h
  have hcls : Tn S w0 w := hst.cls
  obtain ⟨cs, hb, hl⟩ := hcls.blk _ _ _ hb0
  obtain ⟨u1, hu1, hk1⟩ := hl.2 _ _ hu0
  have hev : a.eval x = u := kn_val hst hx
  have ho : i * σ.k + off < cs.length := (List.getElem?_eq_some_iff.1 hu1).1
  refine ⟨cs, [u], hb, by omega, ?_, rfl, fun r hr => by simp at hr; subst hr; exact hu, hcls.trans (Tn.put hb hSb hu1 (hk1.symm.trans hk0))⟩
  rw [hev]
  cases u <;> first | rfl | simp [Value.oneCell'] at hu
theorem W_loadT {S : Nat → Prop} {w0 : World} {σ ρ : Shp} {b n c i off o : Nat} {t : TypeId} {x : Operand} (hM : Stepper P ops (Tn S w0) N M) (hV : ShS σ S (.slice (some ⟨b, 0, none⟩) n c) w0) (hi : i < n) (hp : PrS σ off (sS ρ)) (hB : scalarB P t = true) (hg : wantedK ops K g = some true) (hN : Nat.blt d N = true)
    (hx : kn K x = some (.inl (.pointer (some ⟨b, o, none⟩)))) (ho : o = i * σ.k + off) (h : M ((d, .inr (uSh S ρ)) :: K) rest) : M K (⟨some d, .load t x, ty, pos, af, g⟩ :: rest) :=
  W_det hM _ hN hg (fun ρ' w hc hk => by
    subst ho
    obtain ⟨t', cs, d', hb, _, hd, v, rfl, hv⟩ := (hV.up hc).at hi hp
    exact ⟨v, run_load1 hB (hk x (by simp [Op.operands]) _ hx) (hb.cell (hd 0 v rfl)), hv⟩) h
theorem W_boxT (hM : Stepper P ops C N M) {cs : List Value} {s : Nat} {x : Operand} {t : TypeId} (hs : ∀ w, C w → s ≤ w.heap.size) (hg : wantedK ops K g = some true) (hN : Nat.blt d N = true) (hx : kn K x = some (.inl (.agg cs.toArray)))
    (h : M ((d, .inr (uBx s t cs)) :: K) rest) : M K (⟨some d, .box t x, ty, pos, af, g⟩ :: rest) :=
  W_gen hM _ hN hg (fun a w hc hk => by
    have hv : a.eval x = .agg cs.toArray := hk x (by simp [Op.operands]) _ hx
    have hr : ∀ ρ : Operand → Value, ρ x = .agg cs.toArray → (execOp ρ ⟨some d, .box t x, ty, pos, af, g⟩).run P w = .ok (.value (.pointer (some ⟨w.heap.size, 0, none⟩))) (w.alloc (.cells cs.toArray t)) := fun ρ hv => by
      simp [execOp, hv, go_sem, Value.cells]
    unfold gives
    rw [hr _ hv]
    exact ⟨new_ext _ _, w.heap.size, rfl, hs w hc, heap_alloc_new w _⟩) h
theorem W_loadAT (hM : Stepper P ops C N M) {cs : List Value} {k : Nat} {x : Operand} {t : TypeId} {b o : Nat} (hB : aggB P t k = true) (hk : cs.length = k) (hg : wantedK ops K g = some true) (hN : Nat.blt d N = true) (hx : kn K x = some (.inl (.pointer (some ⟨b, o, none⟩)))) (hcell : ∀ w, C w → ∀ (j : Nat) v, cs[j]? = some v → w.cell? ⟨b, o + j, none⟩ = some v)
    (h : M ((d, .inl (.agg cs.toArray)) :: K) rest) : M K (⟨some d, .load t x, ty, pos, af, g⟩ :: rest) :=
  W_val hM hN hg (fun ρ w hc hkk => by
    have hv : ρ x = .pointer (some ⟨b, o, none⟩) := hkk x (by simp [Op.operands]) _ hx
    have hr := run_loadCells_list (P := P) w ⟨b, o, none⟩ cs (fun j v hj => by rw [Addr.add_lit]; exact hcell w hc j v hj)
    rw [hk] at hr
    simp [execOp, hv, Instr.loadAt, Instr.sureAddr, loadVar, isAgg_true hB, aggB_size hB, hr]) h
end

/-! ### Families of layouts: all blocks in S -/
structure Fm (α : Type) where
  P : (Nat → Prop) → Phi α
  σ : Shp
  hk : ∀ S, (P S).k = σ.k
  keep : ∀ S T x cs w w', (P S).φ x cs w → Keep T w w' → (∀ b, S b → T b → False) → (P S).φ x cs w'
  fin : ∀ S x cs w, (P S).φ x cs w → (P (fun b => S b ∧ b < w.heap.size)).φ x cs w
  shp : ∀ S x cs w, (P S).φ x cs w → σ.φ S cs w
  b : Phi α
  hb : b.k = σ.k
  rd : ∀ S x cs w, (P S).φ x cs w → b.φ x cs w
theorem OS.upE {α : Type} {e : TypeId} {Ψ : Phi α} {xs : List α} {S : Nat → Prop} {v : Value} {w w' : World} (h : OS e Ψ xs S v w) (he : Ext w w') : OS e Ψ xs S v w' := by
  obtain ⟨A, n, c, cs, h1, h2, h3, h4, h5, h6, h7, h8, h9⟩ := h
  exact ⟨A, n, c, cs, h1, h2, h3, h4, h5, h6.ext he, h7, h8, upC_ls _ _ h9 he⟩
theorem OS.map {α : Type} {e : TypeId} {Ψ Ψ' : Phi α} {xs : List α} {S S' : Nat → Prop} {v : Value} {w w' : World} (h : OS e Ψ xs S v w) (hk : Ψ'.k = Ψ.k) (hb : ∀ b cs, S b → Blk w b e cs → S' b ∧ Blk w' b e cs) (hφ : ∀ z cs, Ψ.φ z cs w → Ψ'.φ z cs w') : OS e Ψ' xs S' v w' := by
  obtain ⟨A, n, c, cs, h1, h2, h3, h4, h5, h6, h7, h8, h9⟩ := h
  refine ⟨A, n, c, cs, h1, h2, h3, h4, by rw [hk]; exact h5, ?_, fun g hg => ?_, h8, fun j z hz => by rw [hk]; exact hφ _ _ (h9 j z hz)⟩
  · cases A with
    | none => exact h6
    | some g => exact (hb g _ (h7 g rfl) h6).2
  · subst hg
    exact (hb g _ (h7 g rfl) h6).1
def QS {α : Type} (S : Nat → Prop) (e : TypeId) (Ψ : Phi α) (xs : List α) (v : Value) (w : World) : Prop := OS e Ψ xs S v w ∧ xs.length ≤ 1048576
def uQ {α : Type} (S : Nat → Prop) (e : TypeId) (Ψ : Phi α) (xs : List α) : UR := ⟨QS S e Ψ xs, fun _ _ _ he h => ⟨h.1.upE he, h.2⟩⟩
def qS {α : Type} (S : Nat → Prop) (e : TypeId) (Ψ : Phi α) : Phi (List α) := ⟨1, fun xs cs w => ∃ v, cs = [v] ∧ QS S e Ψ xs v w, fun _ _ _ _ he ⟨v, h, hs⟩ => ⟨v, h, hs.1.upE he, hs.2⟩, (fun _ _ _ ⟨v, h, _⟩ => by rw [h]; rfl),
  (fun _ _ _ ⟨v, h, hs⟩ u hu => by
    rw [h] at hu
    simp at hu
    subst hu
    obtain ⟨⟨A, n, c, cs, ⟨p, hv, _⟩, _⟩, _⟩ := hs
    rw [hv]; rfl), fun t => e ≠ t ∧ Ψ.Av t, fun t ht xs cs w w' hs ⟨v, h, hv, hn⟩ => ⟨v, h, hv.map rfl (fun b cs hS hb => ⟨hS, hs b _ hb (fun cs fr h => by injection h with _ h2; exact ht.1 h2)⟩) (fun z cs hφ => Ψ.st t ht.2 _ _ _ _ hs hφ), hn⟩⟩
def fI : Fm Int := ⟨fun _ => pI, sI, fun _ => rfl, fun _ _ _ _ _ _ h _ _ => h, fun _ _ _ _ h => h, fun _ x _ _ h => ⟨x, h⟩, pI, rfl, fun _ _ _ _ h => h⟩
def fStr : Fm ByteArray := ⟨fun _ => pStr, sStr, fun _ => rfl, fun _ _ _ _ _ _ h _ _ => h, fun _ _ _ _ h => h, fun _ x _ _ h => ⟨x, h⟩, pStr, rfl, fun _ _ _ _ h => h⟩
def fNil {α : Type} : Fm α := ⟨fun _ => pNil, sNil, fun _ => rfl, fun _ _ _ _ _ _ h _ _ => h, fun _ _ _ _ h => h, fun _ _ _ _ h => h, pNil, rfl, fun _ _ _ _ h => h⟩
def fCat {α β : Type} (f : α → β) (F : Fm β) (G : Fm α) : Fm α := ⟨fun S => pCat f (F.P S) (G.P S), sCat F.σ G.σ, fun S => by show (F.P S).k + (G.P S).k = F.σ.k + G.σ.k; rw [F.hk, G.hk],
  fun S T x cs w w' ⟨c1, c2, h, h1, h2⟩ hk hd => ⟨c1, c2, h, F.keep _ _ _ _ _ _ h1 hk hd, G.keep _ _ _ _ _ _ h2 hk hd⟩,
  fun S x cs w ⟨c1, c2, h, h1, h2⟩ => ⟨c1, c2, h, F.fin _ _ _ _ h1, G.fin _ _ _ _ h2⟩,
  fun S x cs w ⟨c1, c2, h, h1, h2⟩ => ⟨c1, c2, h, F.shp _ _ _ _ h1, G.shp _ _ _ _ h2⟩,
  pCat f F.b G.b, by show F.b.k + G.b.k = F.σ.k + G.σ.k; rw [F.hb, G.hb], fun S x cs w ⟨c1, c2, h, h1, h2⟩ => ⟨c1, c2, h, F.rd _ _ _ _ h1, G.rd _ _ _ _ h2⟩⟩
theorem IsS.mono {α : Type} {e : Option TypeId} {Φ Ψ : Phi α} {xs : List α} {v : Value} {w : World} (h : IsS e Φ xs v w) (hk : Ψ.k = Φ.k) (hφ : ∀ z cs, Φ.φ z cs w → Ψ.φ z cs w) : IsS e Ψ xs v w := by
  obtain ⟨A, n, c, hv, hn, hc, hm, hall⟩ := h
  refine ⟨A, n, c, hv, hn, hc, hm, fun i x hx => ?_⟩
  obtain ⟨b, off, cs, hA, hcell, h1, ht⟩ := hall i x hx
  exact ⟨b, off, cs, hA, by rw [hk]; exact hcell, hφ _ _ h1, ht⟩
theorem OS.shS {α : Type} {e : TypeId} {Ψ : Phi α} {σ : Shp} {xs : List α} {S : Nat → Prop} {v : Value} {w : World} (h : OS e Ψ xs S v w) (hk : Ψ.k = σ.k) (hl : xs.length ≤ 1048576) (hφ : ∀ z cs, Ψ.φ z cs w → σ.φ S cs w) : ShS σ S v w := by
  obtain ⟨A, n, c, cs, ⟨p, h1, hpo⟩, h2, h3, h4, h5, h6, h7, h8, h9⟩ := h
  refine ⟨p, n, c, h1, by omega, fun hp => ?_⟩
  cases A with
  | none => rw [h8 rfl] at h2; simp at h2; omega
  | some g => exact ⟨g, e, cs, hpo.some_, h7 g rfl, h6, fun i hi => by
      have hx := List.getElem?_eq_getElem (show i < xs.length by omega)
      rw [← hk]
      exact hφ _ _ (h9 i _ hx)⟩
def fS {α : Type} (e : TypeId) (F : Fm α) : Fm (List α) := ⟨fun S => qS S e (F.P S), sS F.σ, fun _ => rfl,
  fun S T x cs w w' ⟨v, h, h1, hl⟩ hk hd => ⟨v, h, h1.map rfl (fun b cs hS hb => ⟨hS, hk.blk hb (fun ht => hd b hS ht)⟩) (fun z cs hφ => F.keep _ _ _ _ _ _ hφ hk hd), hl⟩,
  fun S x cs w ⟨v, h, h1, hl⟩ => ⟨v, h, h1.map ((F.hk _).trans (F.hk _).symm) (fun b cs hS hb => ⟨⟨hS, hb.lt⟩, hb⟩) (fun z cs hφ => F.fin _ _ _ _ hφ), hl⟩,
  fun S x cs w ⟨v, h, h1, hl⟩ => ⟨v, h, h1.shS (F.hk S) hl (fun z cs hφ => F.shp _ _ _ _ hφ)⟩,
  pS (some e) F.b, rfl, fun S x cs w ⟨v, h, h1, hl⟩ => ⟨v, h, h1.isS.mono (F.hb.trans (F.hk S).symm) (fun z cs hφ => F.rd _ _ _ _ hφ)⟩⟩
/-- A struct, a slice, with blocks of its own. -/
def oN {α : Type} (F : Fm α) : Ow α := ⟨fun x S v w => ∃ cs : List Value, v = .agg cs.toArray ∧ (F.P S).φ x cs w, fun x S T v w w' ⟨cs, h, h1⟩ hk hd => ⟨cs, h, F.keep _ _ _ _ _ _ h1 hk hd⟩⟩
def oQ {α : Type} (e : TypeId) (F : Fm α) : Ow (List α) := ⟨fun xs S v w => ((fS e F).P S).φ xs [v] w, fun x S T v w w' h hk hd => (fS e F).keep _ _ _ _ _ _ h hk hd⟩
theorem CTG.mono {P : Program} {f : FuncId} {ps : List Pr} {R R' : Nat → Pr} (h : CTG P f ps R) (hr : ∀ s v w, (R s).ok v w → (R' s).ok v w) : CTG P f ps R' := .of_ct fun w vs s hs hk =>
  (h.at hs hk).mono fun e w' ⟨v, h1, h2, h3⟩ => ⟨v, h1, h2, hr _ _ _ h3⟩
theorem CTG.oN {P : Program} {f : FuncId} {ps : List Pr} {α : Type} {F : Fm α} {x : α} (h : CTG P f ps (fun s => .inr (uA (F.P (fun b => s ≤ b)) x))) : CTG P f ps (fun s => .inr (uO s (oN F) x)) := h.mono fun s v w ⟨cs, h1, h2⟩ => ⟨fun b => s ≤ b ∧ b < w.heap.size, fun b hb => hb, cs, h1, F.fin _ _ _ _ h2⟩
theorem CTG.oQ {P : Program} {f : FuncId} {ps : List Pr} {α : Type} {e : TypeId} {F : Fm α} {xs : List α} (h : CTG P f ps (fun s => .inr (uQ (fun b => s ≤ b) e (F.P (fun b => s ≤ b)) xs))) : CTG P f ps (fun s => .inr (uO s (oQ e F) xs)) := h.mono fun s v w h => ⟨fun b => s ≤ b ∧ b < w.heap.size, fun b hb => hb, (fS e F).fin _ _ _ _ ⟨v, rfl, h⟩⟩
theorem CTG.uQ {P : Program} {f : FuncId} {ps : List Pr} {α : Type} {e : TypeId} {Ψ : Phi α} {hfl : Flat Ψ} {xs : List α} (h : CTG P f ps (fun s => .inr (uO s (oF e Ψ hfl) xs))) (hl : xs.length ≤ 1048576) : CTG P f ps (fun s => .inr (uQ (fun b => s ≤ b) e Ψ xs)) := h.mono fun s v w ⟨S, hS, h⟩ => ⟨OS.map h rfl (fun b cs hb hB => ⟨(hS b hb).1, hB⟩) (fun _ _ h => h), hl⟩
theorem oN.isA {α : Type} {F : Fm α} {x : α} {S : Nat → Prop} {v : Value} {w : World} (h : (oN F).R x S v w) : (uA F.b x).R v w := let ⟨cs, h1, h2⟩ := h; ⟨cs, h1, F.rd _ _ _ _ h2⟩
theorem oN.sh {α : Type} {F : Fm α} {x : α} {S : Nat → Prop} {v : Value} {w : World} (h : (oN F).R x S v w) : ShA F.σ S v w := let ⟨cs, h1, h2⟩ := h; ⟨cs, h1, F.shp _ _ _ _ h2⟩
theorem oQ.isS {α : Type} {e : TypeId} {F : Fm α} {xs : List α} {S : Nat → Prop} {v : Value} {w : World} (h : (oQ e F).R xs S v w) : (uS (some e) F.b xs).R v w := by
  obtain ⟨v', h1, h2⟩ := (fS e F).rd _ _ _ _ h
  injection h1 with h1
  subst h1
  exact h2
theorem oQ.sh {α : Type} {e : TypeId} {F : Fm α} {xs : List α} {S : Nat → Prop} {v : Value} {w : World} (h : (oQ e F).R xs S v w) : ShS F.σ S v w := by
  obtain ⟨v', h1, h2⟩ := (fS e F).shp _ _ _ _ h
  injection h1 with h1
  subst h1
  exact h2
theorem elem_Q {α : Type} {S : Nat → Prop} {e : TypeId} {Ψ : Phi α} {xs : List α} : ∀ v w, Pr.ok (.inr (uQ S e Ψ xs)) v w → ∃ vs : List Value, v.cells = vs.toArray ∧ (qS S e Ψ).φ xs vs w := fun v w h => by
  have h' := h
  obtain ⟨⟨A, n, c, cs, ⟨p, hv, _⟩, _⟩, _⟩ := h'
  exact ⟨[v], by rw [hv]; rfl, v, rfl, h⟩
theorem av_Q {α : Type} {S : Nat → Prop} {e t : TypeId} {Ψ : Phi α} (h1 : e ≠ t) (h2 : Ψ.Av t) : (qS S e Ψ).Av t := ⟨h1, h2⟩
theorem Made.isQ {α : Type} {Ψ : Phi α} {xs : List α} {w0 w : World} {te : TypeId} {g n s : Nat} {i : Int} (h : Made w0 g te Ψ xs i w) (hg : w0.heap.size ≤ g) (hs : s ≤ w0.heap.size) (hi : (xs.length : Int) ≤ i) (hn : n = xs.length) (hm : xs.length ≤ 1048576) : (Go.Proofs.YtanlaggnhocjhaaGreat.uQ (fun b => s ≤ b) te Ψ xs).R (.slice (some ⟨g, 0, none⟩) n n) w := by
  obtain ⟨he, cs, hB, hl, hall⟩ := h
  refine ⟨⟨some g, n, n, cs, ⟨_, rfl, .inl rfl⟩, hn, Nat.le_refl _, by simp only [maxLen]; omega, by rw [hn]; exact hl, hB, fun b e => by injection e with e; omega, (fun e => by cases e), fun j z hz => hall j z ?_ hz⟩, hm⟩
  have := (List.getElem?_eq_some_iff.1 hz).1
  omega
section
variable {P : Program} {ops : Array Oper} {C : World → Prop} {Q : Exit → Act → World → Prop} {N : Nat} {M : List (Nat × Pr) → List Oper → Prop} {K : List (Nat × Pr)} {rest : List Oper} {d : Nat} {op : Op} {ty ty2 : TypeId} {pos pos2 : String} {af af2 : Array Edge} {g : Option (Nat × Bool)}
/-- A call whose result gets a name and blocks of its own: the class begins anew. -/
theorem Sq_callN {β : Type} {O : Ow β} {x : β} {f : FuncId} {xs : Array Operand} {ats : Array TypeId} {ps : List Pr} (hC : UpC C) (hct : CTG P f ps (fun s => .inr (uO s O x))) (hN : Nat.blt d N = true) (hargs : knAll K xs.toList = some ps) (hB : callB P f = true)
    (h : ∀ q w v S, C q → Ext q w → (∀ b, S b → q.heap.size ≤ b ∧ b < w.heap.size) → O.R x S v w → Sq P ops N (Ext w) Q ((d, .inl v) :: K) rest) : Sq P ops N C Q K (⟨some d, .call { callee := .value (.func f), args := xs, argTypes := ats }, ty, pos, af, none⟩ :: rest) := by
  unfold Sq
  intro a w hst
  refine wpList_plain rfl fun K' hK' => ?_
  unfold Oper.wp
  rw [run_call hB rfl]
  simp only [Oper.upon]
  have hall := knAll_ok (ρ := a.eval) (w := w) xs.toList ps hargs fun x hx p hp => kn_val hst hp
  have hc := hct.at (Nat.le_refl w.heap.size) hall
  have e1 : (xs.toList.map a.eval).toArray = xs.map a.eval := by
    apply Array.ext'
    simp
  rw [e1] at hc
  refine hc.mono fun en w' ⟨v, he, hext, S, hS, hR⟩ => ?_
  subst he
  have hsq := h w w' v S hst.cls hext hS hR
  unfold Sq at hsq
  have hst2 := hst.step (d := d) (R := .inl v) (v := v) hC hext (Nat.le_of_ble_eq_true hN) rfl
  exact hK' _ _ (hsq _ _ (hst2.cls' (Ext.refl _)))
/-- A local that is filled at once. -/
theorem Sq_newBox {t : TypeId} {n : Nat} {cs : List Value} {x : Operand} (hC : UpC C) (hB : allocB P t n = true) (hx : kn ((d, .inl undef) :: K) x = some (.inl (.agg cs.toArray))) (hlen : cs.length = n) (hone : ∀ u ∈ cs, u.oneCell' = true) (hN : Nat.blt d N = true)
    (h : ∀ q w gb, C q → Ext q w → q.heap.size ≤ gb → Blk w gb t cs → Sq P ops N (Ext w) Q ((d, .inl (.pointer (some ⟨gb, 0, none⟩))) :: K) rest) : Sq P ops N C Q K (⟨some d, .alloc t, ty, pos, af, none⟩ :: ⟨none, .store t (.tmp d) x, ty2, pos2, af2, none⟩ :: rest) := by
  have hx' : ∀ gb, kn ((d, .inl (.pointer (some ⟨gb, 0, none⟩))) :: K) x = some (.inl (.agg cs.toArray)) := fun gb => by
    cases x with
    | tmp s =>
      simp only [kn] at hx ⊢
      by_cases e : d = s
      · subst e
        rw [lookK_same] at hx
        injection hx with hx
        injection hx with hx
        cases hx
      · rw [lookK_ne _ e] at hx ⊢
        exact hx
    | const v => exact hx
    | global g => exact hx
    | func f => exact hx
  unfold Sq
  intro a w hst
  refine wpList_plain rfl fun K' hK' => ?_
  unfold Oper.wp
  rw [run_alloc hB]
  simp only [Oper.upon]
  have hext := new_ext w (.cells (zeroOf P t) t)
  have hst' := hst.step (d := d) (R := .inl (.pointer (some ⟨w.heap.size, 0, none⟩))) (v := .pointer (some ⟨w.heap.size, 0, none⟩)) hC hext (Nat.le_of_ble_eq_true hN) rfl
  have hb0 : Blk (w.alloc (.cells (zeroOf P t) t)) w.heap.size t (zeroOf P t).toList := by
    have := Blk.new w t (zeroOf P t).toList
    rwa [Array.toArray_toList] at this
  have hzl : (zeroOf P t).toList.length = n := by rw [Array.length_toList]; exact zeroOf_size hB
  have hput : putL (zeroOf P t).toList 0 cs = cs := putL_all (by rw [hzl, hlen])
  refine hK' _ _ ?_
  refine wpList_plain rfl fun K2 hK2 => ?_
  unfold Oper.wp
  have he : (a.put (some d) (.pointer (some ⟨w.heap.size, 0, none⟩))).eval (.tmp d) = .pointer (some ⟨w.heap.size, 0, none⟩) := kn_val (s := .tmp d) hst' (lookK_same _ _ _)
  have hv : (a.put (some d) (.pointer (some ⟨w.heap.size, 0, none⟩))).eval x = .agg cs.toArray := kn_val hst' (hx' _)
  have hsize : (sizeOf t).run P (w.alloc (.cells (zeroOf P t) t)) = .ok n (w.alloc (.cells (zeroOf P t) t)) := by
    have h1 := allocB_size hB
    cases hi : P.info? t with
    | none => rw [hi] at h1; cases h1
    | some i => rw [hi] at h1; simp at h1; rw [sizeOf_run hi, h1]
  have hst1 := run_storeCells_at P w.heap.size 0 t cs 0 (zeroOf P t).toList.toArray _ hb0 (by simp [hlen] at hzl ⊢; omega) hone
  have hr2 : (execOp (a.put (some d) (.pointer (some ⟨w.heap.size, 0, none⟩))).eval ⟨none, .store t (.tmp d) x, ty2, pos2, af2, none⟩).run P (w.alloc (.cells (zeroOf P t) t)) = .ok .skip ((w.alloc (.cells (zeroOf P t) t)).setRow w.heap.size cs.toArray) := by
    simp only [execOp, Instr.storeAt, he, Instr.sureAddr, storeVar, Sem.run_bind, Sem.run_pure, Result.andThen_ok, hsize, hv, Value.cells]
    simp only [List.size_toArray, hlen, ne_eq, not_true, if_false]
    have e1 : ((zeroOf P t).toList.toArray.toList.take (0 + 0) ++ cs ++ (zeroOf P t).toList.toArray.toList.drop (0 + 0 + cs.length)) = putL (zeroOf P t).toList 0 cs := by simp [putL]
    rw [e1, hput] at hst1
    simp only [hst1, Result.andThen_ok]
  rw [hr2]
  simp only [Oper.upon]
  have hext2 : Ext w ((w.alloc (.cells (zeroOf P t) t)).setRow w.heap.size cs.toArray) := Ext.trans_of_setRow hext cs
  have hsq := h w _ w.heap.size hst.cls hext2 (Nat.le_refl _) (hb0.set_ cs)
  unfold Sq at hsq
  have hst2 := hst.step (d := d) (R := .inl (.pointer (some ⟨w.heap.size, 0, none⟩))) (v := .pointer (some ⟨w.heap.size, 0, none⟩)) hC hext2 (Nat.le_of_ble_eq_true hN) rfl
  exact hK2 _ _ (hsq _ _ (hst2.cls' (Ext.refl _)))
theorem W_loadAR (hM : Stepper P ops C N M) {U : UR} {cs : List Value} {k : Nat} {x : Operand} {t e : TypeId} {b : Nat} (hB : aggB P t k = true) (hk : cs.length = k) (hg : wantedK ops K g = some true) (hN : Nat.blt d N = true) (hx : kn K x = some (.inl (.pointer (some ⟨b, 0, none⟩)))) (hb : ∀ w, C w → Blk w b e cs) (hU : ∀ w, C w → U.R (.agg cs.toArray) w)
    (h : M ((d, .inr U) :: K) rest) : M K (⟨some d, .load t x, ty, pos, af, g⟩ :: rest) :=
  W_det hM _ hN hg (fun ρ w hc hkk => by
    have hv : ρ x = .pointer (some ⟨b, 0, none⟩) := hkk x (by simp [Op.operands]) _ hx
    have hr := run_loadCells_list (P := P) w ⟨b, 0, none⟩ cs (fun j v hj => by rw [Addr.add_lit, Nat.zero_add]; exact (hb w hc).cell hj)
    rw [hk] at hr
    exact ⟨_, by simp [execOp, hv, Instr.loadAt, Instr.sureAddr, loadVar, isAgg_true hB, aggB_size hB, hr], hU w hc⟩) h
end
end Go.Proofs.YtanlaggnhocjhaaGreat
