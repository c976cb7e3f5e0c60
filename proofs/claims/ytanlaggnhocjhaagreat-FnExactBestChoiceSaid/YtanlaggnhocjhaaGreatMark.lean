/-
  Slices that a call made afresh: their blocks are its own; writing into them; what is known behind that.
-/
import Derived.Test.YtanlaggnhocjhaaGreatBuild
namespace Go.Proofs.YtanlaggnhocjhaaGreat
set_option linter.unusedSimpArgs false
set_option linter.unusedVariables false
open Go.RowKit

/-- From w to w' nothing turned but blocks of S; new blocks may have come. -/
structure Keep (S : Nat → Prop) (w w' : World) : Prop where
  os : w'.os = w.os
  tape : w'.tape = w.tape
  output : w'.output = w.output
  size : w.heap.size ≤ w'.heap.size
  block : ∀ b, b < w.heap.size → ¬ S b → w'.heap[b]? = w.heap[b]?
theorem Keep.refl {S : Nat → Prop} (w : World) : Keep S w w := ⟨rfl, rfl, rfl, Nat.le_refl _, fun _ _ _ => rfl⟩
theorem Keep.of_ext {S : Nat → Prop} {w w' : World} (h : Ext w w') : Keep S w w' := ⟨h.os, h.tape, h.output, h.size, fun b hb _ => h.block b hb⟩
theorem Keep.trans {S : Nat → Prop} {a b c : World} (h : Keep S a b) (k : Keep S b c) : Keep S a c :=
  ⟨k.os.trans h.os, k.tape.trans h.tape, k.output.trans h.output, Nat.le_trans h.size k.size, fun i hi hS => (k.block i (Nat.lt_of_lt_of_le hi h.size) hS).trans (h.block i hi hS)⟩
theorem Keep.ext {S : Nat → Prop} {w0 w w' : World} (h : Keep S w w') (hw : Ext w0 w) (hS : ∀ b, S b → w0.heap.size ≤ b) : Ext w0 w' :=
  ⟨h.os.trans hw.os, h.tape.trans hw.tape, h.output.trans hw.output, Nat.le_trans hw.size h.size, fun b hb => (h.block b (Nat.lt_of_lt_of_le hb hw.size) fun hs => by have := hS b hs; omega).trans (hw.block b hb)⟩
theorem Keep.blk {S : Nat → Prop} {w w' : World} {g : Nat} {t : TypeId} {cs : List Value} (h : Keep S w w') (hB : Blk w g t cs) (hn : ¬ S g) : Blk w' g t cs := (h.block g hB.lt hn).trans hB
theorem upC_keep {S : Nat → Prop} {w : World} : UpC (Keep S w) := fun _ _ h he => h.trans (Keep.of_ext he)
theorem Keep.row {S : Nat → Prop} {w w' : World} (h : Keep S w w') {g : Nat} (hg : S g) (cs : Array Value) : Keep S w (w'.setRow g cs) :=
  h.trans ⟨rfl, rfl, rfl, by simp [World.setRow], fun b hb hS => setRow_other w' g b cs (fun e => hS (e ▸ hg))⟩

/-- A datum with blocks of its own. -/
structure Ow (β : Type) where
  R : β → (Nat → Prop) → Value → World → Prop
  keep : ∀ x S T v w w', R x S v w → Keep T w w' → (∀ b, S b → T b → False) → R x S v w'
def uO {β : Type} (s : Nat) (O : Ow β) (x : β) : UR := ⟨fun v w => ∃ S : Nat → Prop, (∀ b, S b → s ≤ b ∧ b < w.heap.size) ∧ O.R x S v w,
  fun v w w' he ⟨S, h1, h2⟩ => ⟨S, fun b hb => ⟨(h1 b hb).1, Nat.lt_of_lt_of_le (h1 b hb).2 he.size⟩, O.keep _ _ (fun _ => False) _ _ _ h2 (Keep.of_ext he) fun _ _ h => h⟩⟩
/-- No cell of such a datum is an address. -/
def Flat {α : Type} (Ψ : Phi α) : Prop := ∀ x cs w w', Ψ.φ x cs w → Ψ.φ x cs w'
theorem flat_I : Flat pI := fun _ _ _ _ h => h
theorem flat_nil {α : Type} : Flat (pNil (α := α)) := fun _ _ _ _ h => h
theorem flat_cat {α β : Type} {f : α → β} {Φ : Phi β} {Ψ : Phi α} (h1 : Flat Φ) (h2 : Flat Ψ) : Flat (pCat f Φ Ψ) := fun x cs w w' ⟨c1, c2, h, k1, k2⟩ => ⟨c1, c2, h, h1 _ _ _ _ k1, h2 _ _ _ _ k2⟩
def OS {α : Type} (e : TypeId) (Ψ : Phi α) (xs : List α) (S : Nat → Prop) (v : Value) (w : World) : Prop :=
  ∃ (A : Option Nat) (n c : Nat) (cs : List Value), (∃ p, v = .slice p n c ∧ pOf A p c) ∧ n = xs.length ∧ n ≤ c ∧ c ≤ maxLen ∧ cs.length = c * Ψ.k ∧ BlkO w (A, e, cs) ∧ (∀ g, A = some g → S g) ∧ (A = none → xs = []) ∧ LS Ψ xs cs w
def oF {α : Type} (e : TypeId) (Ψ : Phi α) (hfl : Flat Ψ) : Ow (List α) := ⟨OS e Ψ, fun xs S T v w w' ⟨A, n, c, cs, h1, h2, h3, h4, h5, h6, h7, h8, h9⟩ hk hd => by
  refine ⟨A, n, c, cs, h1, h2, h3, h4, h5, ?_, h7, h8, fun j z hz => hfl _ _ _ _ (h9 j z hz)⟩
  cases A with
  | none => exact h6
  | some g => exact hk.blk (h6 : Blk w g e cs) fun ht => hd g (h7 g rfl) ht⟩
theorem OS.isS {α : Type} {e : TypeId} {Ψ : Phi α} {xs : List α} {S : Nat → Prop} {v : Value} {w : World} (h : OS e Ψ xs S v w) : IsS (some e) Ψ xs v w := by
  obtain ⟨A, n, c, cs, ⟨p, rfl, hp⟩, h2, h3, h4, h5, h6, h7, h8, h9⟩ := h
  refine ⟨_, _, _, rfl, h2, h3, h4, fun i x hx => ?_⟩
  cases A with
  | none => rw [h8 rfl] at hx; simp at hx
  | some g =>
    obtain rfl := hp.some_
    have hB : Blk w g e cs := h6
    refine ⟨g, 0, _, rfl, fun j u hu => ?_, h9 i x hx, fun t' ht' => ⟨cs.toArray, (0, 0), by injection ht' with ht'; rw [← ht']; exact hB⟩⟩
    rw [Nat.zero_add]
    exact hB.cell (take_drop_get hu)
theorem nil_OS {α : Type} {Ψ : Phi α} {s : Nat} {t : TypeId} {hfl : Flat Ψ} {w : World} : (uO s (oF t Ψ hfl) []).R (.slice none 0 0) w :=
  ⟨fun _ => False, fun _ h => h.elim, none, 0, 0, [], ⟨_, rfl, .inl rfl⟩, rfl, Nat.le_refl _, Nat.zero_le _, by simp, rfl, (fun g e => by cases e), (fun _ => rfl), ls_nil⟩
theorem Made.isO {α : Type} {Ψ : Phi α} {xs : List α} {w0 w : World} {te : TypeId} {g n s : Nat} {i : Int} {hfl : Flat Ψ} (h : Made w0 g te Ψ xs i w) (hg : w0.heap.size ≤ g) (hs : s ≤ w0.heap.size) (hi : (xs.length : Int) ≤ i) (hn : n = xs.length) (hm : xs.length ≤ maxLen) : (uO s (oF te Ψ hfl) xs).R (.slice (some ⟨g, 0, none⟩) n n) w := by
  obtain ⟨he, cs, hB, hl, hall⟩ := h
  refine ⟨fun b => b = g, fun b e => by subst e; exact ⟨Nat.le_trans hs hg, hB.lt⟩, some g, n, n, cs, ⟨_, rfl, .inl rfl⟩, hn, Nat.le_refl _, by omega, by rw [hn]; exact hl, hB, fun b e => by injection e with e; exact e.symm, (fun e => by cases e), fun j z hz => hall j z ?_ hz⟩
  have := (List.getElem?_eq_some_iff.1 hz).1
  omega

/-- A contract whose result has blocks of its own: none below s. -/
def CTG (P : Program) (f : FuncId) (ps : List Pr) (R : Nat → Pr) : Prop :=
  ∀ (w : World) (vs : List Value) (s : Nat), s ≤ w.heap.size → okAll ps vs w → Calls P f vs.toArray w fun e w' => ∃ v, e = .returned v ∧ Ext w w' ∧ (R s).ok v w'
theorem CTG.ct {P : Program} {f : FuncId} {ps : List Pr} {R : Nat → Pr} {R' : Pr} (h : CTG P f ps R) (hr : ∀ s v w, (R s).ok v w → R'.ok v w) : CT P f ps R' := .of fun w vs hk =>
  (h w vs 0 (Nat.zero_le _) hk).mono fun e w' ⟨v, h1, h2, h3⟩ => ⟨v, h1, h2, hr _ _ _ h3⟩
theorem CTG.at {P : Program} {f : FuncId} {ps : List Pr} {R : Nat → Pr} (h : CTG P f ps R) {w : World} {vs : List Value} {s : Nat} (hs : s ≤ w.heap.size) (hk : okAll ps vs w) : Calls P f vs.toArray w fun e w' => ∃ v, e = .returned v ∧ Ext w w' ∧ (R s).ok v w' := h w vs s hs hk
theorem CTG.of_ct {P : Program} {f : FuncId} {ps : List Pr} {R : Nat → Pr} (h : ∀ (w : World) (vs : List Value) (s : Nat), s ≤ w.heap.size → okAll ps vs w → Calls P f vs.toArray w fun e w' => ∃ v, e = .returned v ∧ Ext w w' ∧ (R s).ok v w') : CTG P f ps R := h
/-- A call that writes into a datum of its own memory alone. -/
def MK (P : Program) (f : FuncId) {β : Type} (O : Ow β) (x : β) (k : Int) (y : β) (k' : Int) : Prop :=
  ∀ (w : World) (v : Value) (S : Nat → Prop), O.R x S v w → Calls P f #[v, .int .i64 k] w fun e w' => e = .returned (.int .i64 k') ∧ Keep S w w' ∧ O.R y S v w'

section
variable {P : Program} {ops : Array Oper} {C : World → Prop} {Q : Exit → Act → World → Prop} {N : Nat} {M : List (Nat × Pr) → List Oper → Prop} {K : List (Nat × Pr)} {rest : List Oper} {d : Nat} {op : Op} {ty : TypeId} {pos : String} {af : Array Edge} {g : Option (Nat × Bool)}

theorem W_ctG (hM : Stepper P ops C N M) {f : FuncId} {xs : Array Operand} {ats : Array TypeId} {ps : List Pr} {R : Nat → Pr} {s : Nat} (hct : CTG P f ps R) (hs : ∀ w, C w → s ≤ w.heap.size) (hg : wantedK ops K g = some true) (hN : Nat.blt d N = true) (hargs : knAll K xs.toList = some ps) (hB : callB P f = true)
    (h : M ((d, R s) :: K) rest) : M K (⟨some d, .call { callee := .value (.func f), args := xs, argTypes := ats }, ty, pos, af, g⟩ :: rest) :=
  W_call hM hg hN hargs hB (fun w vs hc hk => hct.at (hs w hc) hk) h
/-- .. and what a slot holds. -/
theorem H_open {c : Code} {U : UR} (t : Nat) (ht : lookK K t = some (.inr U)) (h : ∀ wr v, C wr → U.R v wr → Hc P N ((t, .inl v) :: K) (Ext wr) c Q) : Hc P N K C c Q := .of fun a w hst => by
  obtain ⟨v, hv, hk⟩ := hst.slots t _ ht
  refine (h w v hst.cls hk).out a w ⟨hst.size, hst.defers, fun s p hp => ?_, Ext.refl _⟩
  by_cases e : t = s
  · subst e
    rw [lookK_same] at hp
    injection hp with hp
    subst hp
    exact ⟨v, hv, rfl⟩
  · rw [lookK_ne _ e] at hp
    exact hst.slots s p hp
/-- What a slot holds gets a name. -/
theorem H_name {c : Code} {U : UR} (t : Nat) (ht : lookK K t = some (.inr U)) (h : ∀ v, (∃ w, C w ∧ U.R v w) → Hc P N ((t, .inl v) :: K) C c Q) : Hc P N K C c Q := .of fun a w hst => by
  obtain ⟨v, hv, hk⟩ := hst.slots t _ ht
  refine (h v ⟨w, hst.cls, hk⟩).out a w ⟨hst.size, hst.defers, fun s p hp => ?_, hst.cls⟩
  by_cases e : t = s
  · subst e
    rw [lookK_same] at hp
    injection hp with hp
    subst hp
    exact ⟨v, hv, rfl⟩
  · rw [lookK_ne _ e] at hp
    exact hst.slots s p hp
/-- Writing into one's own datum: the class begins anew. -/
theorem Sq_mark {β : Type} {O : Ow β} {x y : β} {k k' : Int} {f : FuncId} {X Y : Operand} {ats : Array TypeId} {v : Value} {S : Nat → Prop} (hmk : MK P f O x k y k') (hc : ∀ w, C w → O.R x S v w) (hN : Nat.blt d N = true) (hx : kn K X = some (.inl v)) (hy : kn K Y = some (.inl (.int .i64 k))) (hB : callB P f = true)
    (h : ∀ w w', C w → Keep S w w' → O.R y S v w' → Sq P ops N (Ext w') Q ((d, .inl (.int .i64 k')) :: dropR K) rest) : Sq P ops N C Q K (⟨some d, .call { callee := .value (.func f), args := #[X, Y], argTypes := ats }, ty, pos, af, none⟩ :: rest) := by
  unfold Sq
  intro a w hst
  refine wpList_plain rfl fun K' hK' => ?_
  unfold Oper.wp
  rw [run_call hB rfl]
  simp only [Oper.upon]
  have hv : a.eval X = v := kn_val hst hx
  have hk : a.eval Y = .int .i64 k := kn_val hst hy
  have := hmk w v S (hc w hst.cls)
  have e : (#[X, Y] : Array Operand).map a.eval = #[v, .int .i64 k] := by simp [hv, hk]
  rw [e]
  refine this.mono fun e w' ⟨he, hkeep, hR⟩ => ?_
  subst he
  have hsq := h w w' hst.cls hkeep hR
  unfold Sq at hsq
  have hst1 := hst.turned (w' := w') (C' := Ext w') (Ext.refl _)
  have hext := hst1.step (d := d) (R := .inl (.int .i64 k')) (v := .int .i64 k') (fun _ _ h k => h.trans k) (Ext.refl _) (Nat.le_of_ble_eq_true hN) rfl
  exact hK' _ _ (hsq _ _ hext)
theorem MK_of {f : FuncId} {fn : Func} {c : Code} {β : Type} {O : Ow β} {x y : β} {k k' : Int} (hf : P.funcs[f]? = some fn) (hb : fn.body = some c) (hN : fn.ntmps = N) (hps : Nat.ble 2 N = true)
    (h : ∀ w v S, O.R x S v w → Hc P N [(0, .inl v), (1, .inl (.int .i64 k))] (fun w' => w' = w) c (bodyPost P fn (fun e w' => e = .returned (.int .i64 k') ∧ Keep S w w' ∧ O.R y S v w'))) : MK P f O x k y k' := fun w v S hR => by
  have hle := Nat.le_of_ble_eq_true hps
  refine calls_of_wp hf hb ((h w v S hR).out _ _ ⟨by simp; omega, rfl, fun t p hp => ?_, rfl⟩)
  by_cases e0 : 0 = t
  · subst e0
    rw [lookK_same] at hp
    injection hp with hp
    subst hp
    exact ⟨v, by rw [Array.getElem?_append_left (by simp)]; rfl, rfl⟩
  by_cases e1 : 1 = t
  · subst e1
    rw [lookK_ne _ e0, lookK_same] at hp
    injection hp with hp
    subst hp
    exact ⟨_, by rw [Array.getElem?_append_left (by simp)]; rfl, rfl⟩
  rw [lookK_ne _ e0, lookK_ne _ e1] at hp
  cases hp
theorem R_mk {fn : Func} {t : Nat} {k k' : Int} {W : World → Prop} (hres : fn.results = #[.tmp t]) (ht : lookK K t = some (.inl (.int .i64 k))) (hk : k = k') (hC : ∀ w, C w → W w) :
    Go_ N K C (bodyPost P fn (fun e w' => e = .returned (.int .i64 k') ∧ W w') .ret) := .of fun a w hst => by
  subst hk
  have h : a.tmps.getD t undef = .int .i64 k := hst.get ht
  exact ⟨hst.defers, _, results_tmp hres _ _ _, by rw [h], hC _ hst.cls⟩

theorem CTG_of {f : FuncId} {fn : Func} {c : Code} {ps : List Pr} {R : Nat → Pr} (hf : P.funcs[f]? = some fn) (hb : fn.body = some c) (hN : fn.ntmps = N) (hps : Nat.ble ps.length N = true)
    (h : ∀ w s, s ≤ w.heap.size → Hc P N (enumK 0 ps) (Ext w) c (bodyPost P fn (Post w (R s)))) : CTG P f ps R := .of_ct fun w vs s hs hk => by
  have hl := hk.length
  have hle := Nat.le_of_ble_eq_true hps
  refine calls_of_wp hf hb ((h w s hs).out _ _ ⟨by simp; omega, rfl, fun t p hp => ?_, Ext.refl _⟩)
  obtain ⟨v, _, hv, hok⟩ := enumK_spec ps vs 0 t p hk hp
  have hlt : t < vs.length := (List.getElem?_eq_some_iff.1 (by simpa using hv)).1
  exact ⟨v, by simp [Array.getElem?_append, hlt]; simpa [hlt] using hv, hok⟩
theorem CTG_of1V {f : FuncId} {fn : Func} {c : Code} {p0 : Pr} {R : Nat → Pr} (hf : P.funcs[f]? = some fn) (hb : fn.body = some c) (hN : fn.ntmps = N) (hps : Nat.ble 1 N = true)
    (h : ∀ w s v0, s ≤ w.heap.size → p0.ok v0 w → Hc P N [(0, .inl v0)] (Ext w) c (bodyPost P fn (Post w (R s)))) : CTG P f [p0] R := .of_ct fun w vs s hs hk => by
  match vs, hk with
  | [v0], ⟨h0, _⟩ =>
    have hle := Nat.le_of_ble_eq_true hps
    refine calls_of_wp hf hb ((h w s v0 hs h0).out _ _ ⟨by simp; omega, rfl, fun t p hp => ?_, Ext.refl _⟩)
    by_cases e : 0 = t
    · subst e
      rw [lookK_same] at hp
      injection hp with hp
      subst hp
      exact ⟨v0, by rw [Array.getElem?_append_left (by simp)]; rfl, rfl⟩
    · rw [lookK_ne _ e] at hp
      cases hp
/-! ### Numbers place by place -/
def numV (kd : Nat → Bool) (m : Nat) (k : Int) (j : Nat) : Value := match kd (j % m) with | true => .int .i64 (k + j) | false => .bool (decide ((k + j) % 3 = 0))
def NumC (w0 : World) (S : Nat → Prop) (A : Option Nat) (e : TypeId) (kd : Nat → Bool) (m : Nat) (k : Int) (n p : Nat) (w : World) : Prop :=
  Keep S w0 w ∧ ∃ cs, BlkO w (A, e, cs) ∧ cs.length = n ∧ ∀ j, j < p → cs[j]? = some (numV kd m k j)
theorem upC_num {w0 : World} {S : Nat → Prop} {A : Option Nat} {e : TypeId} {kd : Nat → Bool} {m : Nat} {k : Int} {n p : Nat} : UpC (NumC w0 S A e kd m k n p) := fun _ _ ⟨h, cs, hb, hl, hj⟩ he => ⟨upC_keep _ _ h he, cs, hb.ext he, hl, hj⟩
theorem Sq_storeN {w0 : World} {S : Nat → Prop} {e : TypeId} {kd : Nat → Bool} {m : Nat} {k : Int} {n p : Nat} {t : TypeId} {x y : Operand} {b o : Nat} {v : Value} (hS : S b) (hsz : allocB P t 1 = true) (hy : kn K y = some (.inl (.pointer (some ⟨b, o, none⟩)))) (hx : kn K x = some (.inl v)) (ho : o = p) (hp : p < n) (hv : v = numV kd m k p)
    (h : Sq P ops N (NumC w0 S (some b) e kd m k n (p + 1)) Q (dropR K) rest) : Sq P ops N (NumC w0 S (some b) e kd m k n p) Q K (⟨none, .store t y x, ty, pos, af, none⟩ :: rest) :=
  Sq_storeX hsz hy (fun a w hst => by
    obtain ⟨hk, cs, hb, hl, hj⟩ := hst.cls
    have hev : a.eval x = v := kn_val hst hx
    have h1 : v.oneCell' = true ∧ v.cells = #[v] := by
      rw [hv]
      unfold numV
      split <;> exact ⟨rfl, rfl⟩
    refine ⟨cs, [v], hb, by omega, by rw [hev, h1.2], rfl, fun u hu => by simp at hu; subst hu; exact h1.1, hk.row hS _, putL cs o [v], Blk.set_ hb _, by rw [putL_length (by simp; omega)]; exact hl, fun j hjp => ?_⟩
    by_cases e : j = p
    · subst e
      rw [← hv, ← ho]
      exact putL_in (j := 0) (by simp; omega) rfl
    · rw [putL_out (by simp; omega) (by simp; omega)]
      exact hj j (by omega)) h
def numL {α : Type} (mk : Int → α) (m : Nat) (k : Int) (n : Nat) : List α := (List.range n).map fun i : Nat => mk (k + (m : Int) * (i : Int))
theorem numL_length {α : Type} {mk : Int → α} {m : Nat} {k : Int} {n : Nat} : (numL mk m k n).length = n := by simp [numL]
theorem ix_num {α : Type} [Inhabited α] {mk : Int → α} {m : Nat} {k : Int} {n i : Nat} (hi : i < n) : ix (numL mk m k n) i = mk (k + (m : Int) * (i : Int)) := by
  have h := ix_get (xs := numL mk m k n) (i := i) (by omega) (by rw [numL_length]; omega)
  rw [numL, List.getElem?_map, Int.toNat_natCast, List.getElem?_range (by omega)] at h
  simp only [Option.map_some, Option.some.injEq] at h
  exact h.symm
theorem num_LS {α : Type} {Ψ : Phi α} {mk : Int → α} {kd : Nat → Bool} {m : Nat} {k : Int} {n : Nat} {cs : List Value} {w : World} (hm : Ψ.k = m) (hmk : ∀ q w, Ψ.φ (mk q) ((List.range m).map fun f => numV kd m q f) w) (hl : n * m ≤ cs.length) (h : ∀ j, j < n * m → cs[j]? = some (numV kd m k j)) : LS Ψ (numL mk m k n) cs w := fun j z hz => by
  have hj : j < n := by have := (List.getElem?_eq_some_iff.1 hz).1; rwa [numL_length] at this
  rw [numL, List.getElem?_map, List.getElem?_range hj] at hz
  simp only [Option.map_some, Option.some.injEq] at hz
  subst hz
  have hjm : j * m + m ≤ n * m := mul_far hj
  have e : (cs.drop (j * Ψ.k)).take Ψ.k = (List.range m).map fun f => numV kd m (k + m * j) f := by
    rw [hm]
    apply List.ext_getElem?
    intro f
    by_cases hf : f < m
    · rw [List.getElem?_take, if_pos hf, List.getElem?_drop, h _ (by omega), List.getElem?_map, List.getElem?_range hf]
      simp only [Option.map_some, Option.some.injEq]
      unfold numV
      have e1 : (j * m + f) % m = f % m := by rw [Nat.mul_comm]; simp
      have e2 : k + ((j * m + f : Nat) : Int) = k + (m : Int) * j + f := by
        have : ((j * m + f : Nat) : Int) = (m : Int) * j + f := by rw [Int.natCast_add, Int.natCast_mul, Int.mul_comm]
        rw [this]
        omega
      rw [e1, e2]
    · rw [List.getElem?_eq_none (by simp; omega), List.getElem?_eq_none (by simp; omega)]
  rw [e]
  exact hmk _ _
theorem some_of {α : Type} {A : Option Nat} {xs : List α} {i : Nat} (hA : A = none → xs = []) (h : (i : Int) < xs.length) : ∃ b, A = some b := by
  cases A with
  | none => rw [hA rfl] at h; simp at h; omega
  | some b => exact ⟨b, rfl⟩
theorem num_OS {α : Type} {Ψ : Phi α} {mk : Int → α} {kd : Nat → Bool} {m : Nat} {k : Int} {n c : Nat} {A : Option Nat} {e : TypeId} {S : Nat → Prop} {w0 w : World} (hm : Ψ.k = m) (hmk : ∀ q w, Ψ.φ (mk q) ((List.range m).map fun f => numV kd m q f) w) {ad : Option Addr} (had : pOf A ad c) (hS : ∀ g, A = some g → S g) (hA : A = none → n = 0) (hnc : n ≤ c) (hc : c ≤ maxLen) {p : Nat} (hp : n * m ≤ p) (h : NumC w0 S A e kd m k (c * m) p w) :
    Keep S w0 w ∧ OS e Ψ (numL mk m k n) S (.slice ad n c) w := by
  obtain ⟨hk, cs, hb, hl, hj⟩ := h
  have : n * m ≤ c * m := Nat.mul_le_mul_right m hnc
  exact ⟨hk, A, n, c, cs, ⟨_, rfl, had⟩, numL_length.symm, hnc, hc, by rw [hm]; exact hl, hb, hS, (fun e => by rw [hA e]; rfl), num_LS hm hmk (by omega) fun j hjn => hj j (by omega)⟩
end
theorem ext_size {q : World} : ∀ w, Ext q w → q.heap.size ≤ w.heap.size := fun _ h => h.size
theorem UR.lift {U : UR} {v : Value} {w w' : World} (he : Ext w w') (h : U.R v w) : U.R v w' := U.up _ _ _ he h
theorem Ow.up {β : Type} {O : Ow β} {x : β} {S : Nat → Prop} {v : Value} {w w' : World} (he : Ext w w') (h : O.R x S v w) : O.R x S v w' := O.keep _ _ (fun _ => False) _ _ _ h (Keep.of_ext he) fun _ _ h => h
theorem Ow.keepR {β : Type} {O : Ow β} {x : β} {S T : Nat → Prop} {v : Value} {w w' : World} (h : O.R x S v w) (hk : Keep T w w') (hd : ∀ b, S b → T b → False) : O.R x S v w' := O.keep _ _ _ _ _ _ h hk hd
theorem lo_up {S : Nat → Prop} {s : Nat} {w w' : World} (h : ∀ b, S b → s ≤ b ∧ b < w.heap.size) (he : Ext w w') : ∀ b, S b → s ≤ b ∧ b < w'.heap.size := fun b hb => ⟨(h b hb).1, Nat.lt_of_lt_of_le (h b hb).2 he.size⟩
theorem lo_k {S T : Nat → Prop} {s : Nat} {w w' : World} (h : ∀ b, S b → s ≤ b ∧ b < w.heap.size) (hk : Keep T w w') : ∀ b, S b → s ≤ b ∧ b < w'.heap.size := fun b hb => ⟨(h b hb).1, Nat.lt_of_lt_of_le (h b hb).2 hk.size⟩
theorem base_of {S : Nat → Prop} {p q q' : World} (hp : Ext p q) (h : ∀ b, S b → q.heap.size ≤ b ∧ b < q'.heap.size) : ∀ b, S b → p.heap.size ≤ b := fun b hb => Nat.le_trans hp.size (h b hb).1
theorem disj {S T : Nat → Prop} {s : Nat} {q q' : World} (h1 : ∀ b, S b → s ≤ b ∧ b < q.heap.size) (h2 : ∀ b, T b → q.heap.size ≤ b ∧ b < q'.heap.size) : ∀ b, S b → T b → False := fun b a c => by
  have := (h1 b a).2
  have := (h2 b c).1
  omega
section
variable {P : Program} {ops : Array Oper} {C : World → Prop} {N : Nat} {M : List (Nat × Pr) → List Oper → Prop} {K : List (Nat × Pr)} {rest : List Oper} {d : Nat} {op : Op} {ty : TypeId} {pos : String} {af : Array Edge} {g : Option (Nat × Bool)}
/-- A struct behind a pointer that is known by value. -/
theorem W_loadUP (hM : Stepper P ops C N M) {α : Type} {Φ : Phi α} {z : α} {v : Value} {x : Operand} {t : TypeId} (hU : ∀ w, C w → (uP Φ z).R v w) (hB : aggB P t Φ.k = true) (hg : wantedK ops K g = some true) (hN : Nat.blt d N = true) (hx : kn K x = some (.inl v))
    (h : M ((d, .inr (uA Φ z)) :: K) rest) : M K (⟨some d, .load t x, ty, pos, af, g⟩ :: rest) :=
  W_det hM _ hN hg (fun ρ w hc hk => by
    have hv' : ρ x = v := hk x (by simp [Op.operands]) _ hx
    obtain ⟨b, o, cs, hv, hcell, hφ⟩ := hU w hc
    refine ⟨.agg cs.toArray, ?_, cs, rfl, hφ⟩
    have hr := run_loadCells_list (P := P) w ⟨b, o, none⟩ cs (fun j v hj => by rw [Addr.add_lit]; exact hcell j v hj)
    rw [Φ.len _ _ _ hφ] at hr
    simp [execOp, hv', hv, Instr.loadAt, Instr.sureAddr, loadVar, isAgg_true hB, aggB_size hB, hr]) h
theorem W_fieldUP (hM : Stepper P ops C N M) {α β : Type} {Φ : Phi α} {Ψ : Phi β} {z : α} {q : α → β} {v : Value} {x : Operand} {t : TypeId} {i off : Nat} (hU : ∀ w, C w → (uP Φ z).R v w) (hp : Proj Φ off Ψ q) (hB : fieldB P t i off = true) (hg : wantedK ops K g = some true) (hN : Nat.blt d N = true)
    (hx : kn K x = some (.inl v)) (h : M ((d, .inr (uP Ψ (q z))) :: K) rest) : M K (⟨some d, .fieldAddr t x i, ty, pos, af, g⟩ :: rest) :=
  W_det hM _ hN hg (fun ρ w hC hk => by
    have hv' : ρ x = v := hk x (by simp [Op.operands]) _ hx
    obtain ⟨b, o, cs, hv, hcell, hφ⟩ := hU w hC
    obtain ⟨c, hc, hφ'⟩ := hp _ _ _ hφ
    unfold fieldB at hB
    split at hB
    · rename_i fs hfs
      split at hB
      · rename_i f hf
        simp only [Bool.and_eq_true] at hB
        obtain ⟨h1, h2⟩ := hB
        have hoff := Nat.eq_of_beq_eq_true h1
        split at h2
        · rename_i inf hinf
          have hne : inf.size ≠ 0 := by
            intro e
            rw [e] at h2
            simp at h2
          refine ⟨.pointer (some ⟨b, o + off, none⟩), ?_, b, o + off, c, rfl, fun j u hu => ?_, hφ'⟩
          · simp [execOp, hv', hv, Instr.fieldAt, run_underlying hfs, hf, Instr.sureAddr, fieldPlace, sizeOf_run hinf, hne, Addr.add_lit, hoff]
          · rw [Nat.add_assoc]
            exact hcell _ _ (hc j u hu)
        · cases h2
      · cases hB
    · cases hB) h
end
attribute [irreducible] MK CTG
end Go.Proofs.YtanlaggnhocjhaaGreat
