/-
  Slices of one's own that grow: slices by literal, append.
-/
import Derived.Test.YtanlaggnhocjhaaGreatCls
import Derived.Deep.AppendSrc
namespace Go.Proofs.YtanlaggnhocjhaaGreat
set_option linter.unusedSimpArgs false
set_option linter.unusedVariables false
open Go.RowKit

def aOf (A : Option Nat) : Option Addr := A.map fun g => ⟨g, 0, none⟩
/-- The address of a slice of one's own: of no room, any. -/
def pOf (A : Option Nat) (p : Option Addr) (c : Nat) : Prop := p = aOf A ∨ (A = none ∧ c = 0)
theorem pOf.some_ {b : Nat} {p : Option Addr} {c : Nat} (h : pOf (some b) p c) : p = aOf (some b) := h.resolve_right fun h => by cases h.1
/-- The cells read as a list, place by place. -/
def LS {α : Type} (Ψ : Phi α) (xs : List α) (cs : List Value) (w : World) : Prop := ∀ (j : Nat) z, xs[j]? = some z → Ψ.φ z ((cs.drop (j * Ψ.k)).take Ψ.k) w
theorem upC_ls {α : Type} {Ψ : Phi α} {xs : List α} {cs : List Value} : UpC (LS Ψ xs cs) := fun _ _ h he j z hz => Ψ.up _ _ _ _ he (h j z hz)
theorem stF_ls {α : Type} {Ψ : Phi α} {xs : List α} {cs : List Value} {t : TypeId} (hav : Ψ.Av t) : StF t (LS Ψ xs cs) := fun _ _ hs h j z hz => Ψ.st t hav _ _ _ _ hs (h j z hz)
theorem ls_nil {α : Type} {Ψ : Phi α} {cs : List Value} {w : World} : LS Ψ [] cs w := fun j z hz => by simp at hz
theorem drop_take_take {cs : List Value} {a k n : Nat} (h : a + k ≤ n) : ((cs.take n).drop a).take k = (cs.drop a).take k := by
  rw [List.drop_take, List.take_take]
  congr 1
  omega
theorem ls_app {α : Type} {Ψ : Phi α} {xs ys : List α} {cs cs' news : List Value} {n m : Nat} {w : World} (hn : n = xs.length) (hm : m = ys.length) (hl : n * Ψ.k ≤ cs.length) (h1 : LS Ψ xs cs w) (h2 : LS Ψ ys news w)
    (h : cs'.take ((n + m) * Ψ.k) = cs.take (n * Ψ.k) ++ news) : LS Ψ (xs ++ ys) cs' w := fun j z hz => by
  subst hn hm
  have hjl := (List.getElem?_eq_some_iff.1 hz).1
  rw [List.length_append] at hjl
  have e1 : (cs'.drop (j * Ψ.k)).take Ψ.k = ((cs.take (xs.length * Ψ.k) ++ news).drop (j * Ψ.k)).take Ψ.k := by
    rw [← h, drop_take_take (mul_far hjl)]
  rw [e1]
  by_cases e : j < xs.length
  · rw [List.getElem?_append_left e] at hz
    rw [List.drop_append_of_le_length (by rw [List.length_take, Nat.min_eq_left hl]; have := mul_far (k := Ψ.k) e; omega)]
    rw [List.take_append_of_le_length (by rw [List.length_drop, List.length_take, Nat.min_eq_left hl]; have := mul_far (k := Ψ.k) e; omega)]
    rw [drop_take_take (mul_far e)]
    exact h1 j z hz
  · rw [List.getElem?_append_right (by omega)] at hz
    have := h2 _ _ hz
    rw [List.drop_append, List.drop_of_length_le (by rw [List.length_take, Nat.min_eq_left hl]; exact Nat.mul_le_mul_right _ (by omega)), List.nil_append, List.length_take, Nat.min_eq_left hl, ← Nat.sub_mul]
    exact this
def appB (P : Program) (t e : TypeId) (k : Nat) : Bool := (match P.underlying t with | some (.slice e') => Nat.beq e' e | _ => false) &&
  (match P.info? e with | some i => (match i.zero with | some z => Nat.beq z.cells.size k | none => false) && Nat.beq i.size k && Nat.ble i.bytes 4096 | none => false)
theorem appB_spec {P : Program} {t e : TypeId} {k : Nat} (h : appB P t e k = true) : ∃ i z, P.underlying t = some (.slice e) ∧ P.info? e = some i ∧ i.zero = some z ∧ z.cells.size = k ∧ i.size = k ∧ i.bytes ≤ 4096 := by
  simp only [appB, Bool.and_eq_true] at h
  obtain ⟨h1, h2⟩ := h
  split at h1
  case h_2 => cases h1
  rename_i e' hu
  have he := Nat.eq_of_beq_eq_true h1
  subst he
  split at h2
  case h_2 => cases h2
  rename_i i hi
  simp only [Bool.and_eq_true] at h2
  obtain ⟨⟨h3, h4⟩, h5⟩ := h2
  split at h3
  case h_2 => cases h3
  rename_i z hz
  exact ⟨i, z, hu, hi, hz, Nat.eq_of_beq_eq_true h3, Nat.eq_of_beq_eq_true h4, Nat.le_of_ble_eq_true h5⟩

theorem cells_list {w : World} {P : Program} {α : Type} {Ψ : Phi α} {zs : List α} {e : Option TypeId} {v : Value} (hk : 0 < Ψ.k) (h : IsS e Ψ zs v w) : ∃ A c news, v = .slice A zs.length c ∧ news.length = zs.length * Ψ.k ∧ LS Ψ zs news w ∧ (∀ u ∈ news, u.oneCell' = true) ∧
    (zs ≠ [] → ∃ a, A = some a ∧ ∀ (j : Nat) u, news[j]? = some u → w.cell? (a.add j) = some u) := by
  obtain ⟨A, n, c, hv, hn, hc, hm, hall⟩ := h
  subst hn
  -- the address
  cases zs with
  | nil => exact ⟨A, c, [], hv, by simp, ls_nil, (fun u hu => by cases hu), fun h => absurd rfl h⟩
  | cons z0 zs0 =>
    obtain ⟨b, off, cs0, hA, _⟩ := hall 0 z0 rfl
    subst hA
    have key : ∀ (ys : List α) (s : Nat), (∀ i x, ys[i]? = some x → ∃ cs, (∀ j u, cs[j]? = some u → w.cell? ⟨b, off + ((s + i) * Ψ.k + j), none⟩ = some u) ∧ Ψ.φ x cs w) →
        ∃ news : List Value, news.length = ys.length * Ψ.k ∧ LS Ψ ys news w ∧ (∀ u ∈ news, u.oneCell' = true) ∧ ∀ (j : Nat) u, news[j]? = some u → w.cell? ⟨b, off + (s * Ψ.k + j), none⟩ = some u := by
      intro ys
      induction ys with
      | nil => exact fun s _ => ⟨[], by simp, ls_nil, (fun u hu => by cases hu), fun j u hu => by simp at hu⟩
      | cons y ys ih =>
        intro s hs
        obtain ⟨cs, hc, hφ⟩ := hs 0 y rfl
        obtain ⟨news, hl, hls, h1, hcell⟩ := ih (s + 1) fun i x hx => by
          obtain ⟨cs, hc, hφ⟩ := hs (i + 1) x (by simpa using hx)
          exact ⟨cs, fun j u hu => by rw [show s + 1 + i = s + (i + 1) by omega]; exact hc j u hu, hφ⟩
        have hcl := Ψ.len _ _ _ hφ
        refine ⟨cs ++ news, by rw [List.length_append, hcl, hl, List.length_cons, Nat.add_mul]; omega, fun j z hz => ?_, fun u hu => ?_, fun j u hu => ?_⟩
        · cases j with
          | zero =>
            simp at hz
            subst hz
            simp only [Nat.zero_mul, List.drop_zero]
            rw [← hcl, List.take_left]
            exact hφ
          | succ j =>
            have := hls j z (by simpa using hz)
            rw [List.drop_append, List.drop_of_length_le (by rw [hcl, Nat.add_mul]; omega), List.nil_append, hcl, show (j + 1) * Ψ.k - Ψ.k = j * Ψ.k by rw [Nat.add_mul]; omega]
            exact this
        · rcases List.mem_append.1 hu with hu | hu
          · exact Ψ.one _ _ _ hφ u hu
          · exact h1 u hu
        · by_cases e : j < cs.length
          · rw [List.getElem?_append_left e] at hu
            have := hc j u hu
            rwa [Nat.add_zero] at this
          · rw [List.getElem?_append_right (by omega)] at hu
            have := hcell _ u hu
            rw [← this]
            congr 2
            rw [Nat.add_mul]
            omega
    obtain ⟨news, hl, hls, h1, hcell⟩ := key (z0 :: zs0) 0 fun i x hx => by
      obtain ⟨b', off', cs, hA, hc, hφ, _⟩ := hall i x hx
      injection hA with hA
      injection hA with e1 e2
      subst e1 e2
      exact ⟨cs, fun j u hu => by rw [Nat.zero_add]; exact hc j u hu, hφ⟩
    refine ⟨_, c, news, hv, hl, hls, h1, fun _ => ⟨_, rfl, fun j u hu => ?_⟩⟩
    rw [Addr.add_lit]
    have := hcell j u hu
    rwa [Nat.zero_mul, Nat.zero_add] at this

theorem IsS.src {P : Program} {α : Type} {Ψ : Phi α} {zs : List α} {e : Option TypeId} {v : Value} {w : World} {t e' : TypeId} (hk : 0 < Ψ.k) (ht : P.underlying t = some (.slice e')) (h : IsS e Ψ zs v w) : ∃ news, Src P Ψ.k t v zs.length news w ∧ LS Ψ zs news w := by
  obtain ⟨A, c, news, hv, hl, hls, h1, hA⟩ := cells_list (P := P) hk h
  subst hv
  by_cases e : zs = []
  · subst e
    have hnil : news = [] := List.length_eq_zero_iff.1 (by simpa using hl)
    subst hnil
    refine ⟨[], ?_, hls⟩
    cases A with
    | none => exact Src.ofNil w ht c
    | some a => exact Src.ofSlice w ht a 0 c [] (by simp) (fun j u hu => by simp at hu) (fun u hu => by cases hu)
  · obtain ⟨a, rfl, hc⟩ := hA e
    exact ⟨news, Src.ofSlice w ht a _ c news hl hc h1, hls⟩
theorem run_append_roomL {P : Program} {w : World} {t tx ty e : TypeId} {i : TypeInfo} (ht : P.underlying t = some (.slice e)) (hi : P.info? e = some i) {b sLen sCap : Nat} {x : Value} {n : Nat} {news cs : List Value} (hs : Src P i.size tx x n news w)
    (hroom : sLen + n ≤ sCap) (hB : Blk w b e cs) (hl : cs.length = sCap * i.size) :
    (Builtin.append_ #[t, tx] ty #[.slice (some ⟨b, 0, none⟩) sLen sCap, x]).run P w = .ok (.slice (some ⟨b, 0, none⟩) (sLen + n) sCap) (w.setRow b (putL cs (sLen * i.size) news).toArray) := by
  have hfit : sLen * i.size + news.length ≤ cs.length := by
    rw [hs.newsLen, hl, ← Nat.add_mul]
    exact Nat.mul_le_mul_right _ hroom
  have hst := run_storeCells_at P b (sLen * i.size) e news 0 cs.toArray w hB (by simpa using hfit) hs.one
  have e1 : (putL cs (sLen * i.size) news) = (cs.toArray.toList.take (sLen * i.size + 0) ++ news ++ cs.toArray.toList.drop (sLen * i.size + 0 + news.length)) := by simp [putL]
  rw [e1]
  simp only [Nat.add_zero] at hst ⊢
  rcases hs.kind with ⟨e', hk⟩ | hk <;> simp only [List.append_assoc] at hst ⊢ <;> simp [Builtin.append_, run_underlying ht, run_underlying hk, sizeOf, typeInfo, hi, hs.len, hroom, hs.cells, Addr.add_lit] <;> rw [hst] <;> rfl

section
variable {P : Program} {ops : Array Oper} {Q : Exit → Act → World → Prop} {N : Nat} {M : List (Nat × Pr) → List Oper → Prop} {K : List (Nat × Pr)} {rest : List Oper} {d : Nat} {op : Op} {ty : TypeId} {pos : String} {af : Array Edge} {g : Option (Nat × Bool)}
  {w0 : World} {Bs : BL} {F : World → Prop}

theorem Cls.again {w w' : World} (h : Cls w0 Bs F w) (hF : UpC F) (he : Ext w w') {m : Nat} {A : Option Nat} {t : TypeId} {cs : List Value} (hm : Bs[m]? = some (A, t, cs)) {g : Nat} {cs' : List Value} (hg : w.heap.size ≤ g) (hB : Blk w' g t cs') : Cls w0 (Bs.set m (some g, t, cs')) F w' := by
  have hu := upC_cls hF _ _ h he
  have hlt : ∀ x ∈ Bs.filterMap (fun x => x.1), x < w.heap.size := fun x hx => by
    obtain ⟨⟨A', t', c'⟩, hy, e⟩ := List.mem_filterMap.1 hx
    have e' : A' = some x := e
    subst e'
    exact (h.blk _ hy : Blk w x t' c').lt
  have hsub : ∀ x ∈ (Bs.set m (some g, t, cs')).filterMap (fun x => x.1), x = g ∨ x ∈ Bs.filterMap (fun x => x.1) := fun x hx => by
    obtain ⟨y, hy, e⟩ := List.mem_filterMap.1 hx
    rcases List.mem_or_eq_of_mem_set hy with hy | hy
    · exact .inr (List.mem_filterMap.2 ⟨y, hy, e⟩)
    · subst hy
      exact .inl (by injection e with e; exact e.symm)
  have hnd : ∀ (l : BL) (m : Nat), (∀ x ∈ l.filterMap (fun x => x.1), x < g) → (l.filterMap fun x => x.1).Nodup → ((l.set m (some g, t, cs')).filterMap fun x => x.1).Nodup := by
    intro l
    induction l with
    | nil => intro m _ h; simp
    | cons a l ih =>
      intro m hlt hn
      have hsl : (l.filterMap fun x => x.1).Nodup := List.Sublist.nodup ((List.sublist_cons_self a l).filterMap _) hn
      have hltl : ∀ x ∈ l.filterMap (fun x => x.1), x < g := fun x hx => hlt x (((List.sublist_cons_self a l).filterMap _).subset hx)
      cases m with
      | zero =>
        have hk : ((some g, t, cs') :: l).filterMap (fun x => x.1) = g :: l.filterMap (fun x => x.1) := rfl
        rw [List.set_cons_zero, hk, List.nodup_cons]
        exact ⟨fun hm => absurd (hltl g hm) (Nat.lt_irrefl _), hsl⟩
      | succ m =>
        rw [List.set_cons_succ]
        obtain ⟨A', t', c'⟩ := a
        cases A' with
        | none => exact ih m hltl hsl
        | some x =>
          have hk : ∀ l' : BL, ((some x, t', c') :: l').filterMap (fun x => x.1) = x :: l'.filterMap (fun x => x.1) := fun _ => rfl
          rw [hk, List.nodup_cons] at hn ⊢
          refine ⟨fun hm => ?_, ih m hltl hn.2⟩
          obtain ⟨y, hy, e⟩ := List.mem_filterMap.1 hm
          rcases List.mem_or_eq_of_mem_set hy with hy | hy
          · exact hn.1 (List.mem_filterMap.2 ⟨y, hy, e⟩)
          · subst hy
            injection e with e
            have := hlt x (by rw [hk]; simp)
            omega
  refine ⟨hu.ext, hnd Bs m (fun x hx => Nat.lt_of_lt_of_le (hlt x hx) hg) h.nd, fun x hx => ?_, fun x hx => ?_, hu.fct⟩
  · rcases hsub x hx with rfl | hx
    · exact Nat.le_trans h.ext.size hg
    · exact h.lo x hx
  · rcases List.mem_or_eq_of_mem_set hx with hx | hx
    · exact hu.blk x hx
    · subst hx
      exact hB

/-- append onto a slice of one's own. -/
theorem Sq_appendP (m : Nat) {α : Type} {Ψ : Phi α} {zs : List α} {es : Option TypeId} {A : Option Nat} {p : Option Addr} {t e : TypeId} {n c : Nat} {cs : List Value} {x y : Operand} (hp : pOf A p c) (hF : UpC F) (hS : StF e F) (hav : Ψ.Av e) (hk : Nat.blt 0 Ψ.k = true) (hB : appB P t e Ψ.k = true) (hN : Nat.blt d N = true)
    (hx : kn K x = some (.inl (.slice p n c))) (hy : kn K y = some (.inr (uS es Ψ zs))) (hm : Bs[m]? = some (A, e, cs)) (hb : cs.length = c * Ψ.k ∧ n ≤ c ∧ c ≤ maxLen ∧ n + zs.length ≤ 1073741824 ∧ 0 < zs.length)
    (h : ∀ g' c' cs' news, w0.heap.size ≤ g' → n + zs.length ≤ c' → c' ≤ maxLen → cs'.length = c' * Ψ.k → cs'.take ((n + zs.length) * Ψ.k) = cs.take (n * Ψ.k) ++ news → UpC (fun w => F w ∧ LS Ψ zs news w) →
      Sq P ops N (Cls w0 (Bs.set m (some g', e, cs')) (fun w => F w ∧ LS Ψ zs news w)) Q ((d, .inl (.slice (some ⟨g', 0, none⟩) (n + zs.length) c')) :: dropR K) rest) :
    Sq P ops N (Cls w0 Bs F) Q K (⟨some d, .call { callee := .builtin .append, args := #[x, y], argTypes := #[t, t] }, ty, pos, af, none⟩ :: rest) := by
  unfold Sq
  intro a w hst
  obtain ⟨i, z, hu, hi, hz, hzk, hik, hby⟩ := appB_spec hB
  have hv : a.eval x = .slice p n c := kn_val hst hx
  have hk' : 0 < Ψ.k := Nat.le_of_ble_eq_true hk
  obtain ⟨news, hsrc, hls⟩ := IsS.src (P := P) hk' hu (kn_val hst hy : IsS es Ψ zs (a.eval y) w)
  obtain ⟨hcl, hnc, hcmx, hsum, hz0⟩ := hb
  have hFF : UpC (fun w => F w ∧ LS Ψ zs news w) := upC_and hF upC_ls
  have hop : ∀ r w', (Builtin.append_ #[t, t] ty #[.slice p n c, a.eval y]).run P w = .ok r w' → (execOp a.eval ⟨some d, .call { callee := .builtin .append, args := #[x, y], argTypes := #[t, t] }, ty, pos, af, none⟩).run P w = .ok (.value r) w' := fun r w' hr => by
    simp [execOp, resolve, invoke, builtin, hv, hr]
  refine wpList_plain rfl fun K' hK' => ?_
  unfold Oper.wp
  by_cases hroom : n + zs.length ≤ c
  · cases A with
    | none =>
      have hc0 : cs = [] := hst.cls.blk _ (List.mem_of_getElem? hm)
      subst hc0
      rw [List.length_nil] at hcl
      have : c = 0 := by
        rcases Nat.eq_zero_or_pos c with h | h
        · exact h
        · have := Nat.mul_pos h hk'; omega
      omega
    | some b =>
      obtain rfl := hp.some_
      have hBk : Blk w b e cs := hst.cls.get hm
      have hr := hop _ _ (run_append_roomL (P := P) (ty := ty) hu hi (by rw [hik]; exact hsrc) hroom hBk (by rw [hik]; exact hcl))
      rw [hr]
      simp only [Oper.upon]
      have hlen : news.length = zs.length * Ψ.k := hsrc.newsLen
      have hfit : n * Ψ.k + news.length ≤ cs.length := by rw [hlen, hcl, ← Nat.add_mul]; exact Nat.mul_le_mul_right _ hroom
      have hcls := hst.cls.put hm (putL cs (n * Ψ.k) news) (F' := fun w => F w ∧ LS Ψ zs news w) (fun w' hs hf => ⟨hS _ _ hs hf, stF_ls hav _ _ hs hls⟩)
      have hsq := h b c (putL cs (n * Ψ.k) news) news (hst.cls.lo _ (List.mem_filterMap.2 ⟨_, List.mem_of_getElem? hm, rfl⟩)) hroom (by omega) (by rw [putL_length hfit]; exact hcl) (by
        rw [Nat.add_mul, ← hlen]
        unfold putL
        rw [List.take_append_of_le_length (by rw [List.length_append, List.length_take]; omega)]
        rw [List.take_of_length_le (by rw [List.length_append, List.length_take]; omega)]) hFF
      unfold Sq at hsq
      rw [hik]
      have hst2 := hst.turned (C' := Cls w0 (Bs.set m (some b, e, putL cs (n * Ψ.k) news)) (fun w => F w ∧ LS Ψ zs news w)) hcls
      exact hK' _ _ (hsq _ _ (hst2.step (upC_cls hFF) (Ext.refl _) (Nat.le_of_ble_eq_true hN) rfl))
  · have hold : ∃ olds, olds = cs.take (n * Ψ.k) ∧ (Builtin.firstCells i.size n (.slice p n c)).run P w.drew = .ok olds.toArray w.drew := by
      refine ⟨_, rfl, ?_⟩
      cases A with
      | none =>
        have hc0 : cs = [] := hst.cls.blk _ (List.mem_of_getElem? hm)
        subst hc0
        rw [List.take_nil]
        rcases hp with rfl | ⟨_, rfl⟩
        · exact run_firstCells_none w.drew i.size n n c
        · obtain rfl : n = 0 := by omega
          cases p with
          | none => exact run_firstCells_none w.drew i.size 0 0 0
          | some a => exact run_firstCells_some w.drew i.size 0 a 0 0 [] (by simp) (fun j v hj => by simp at hj)
      | some b =>
        obtain rfl := hp.some_
        have hBk : Blk w b e cs := hst.cls.get hm
        refine run_firstCells_some w.drew i.size n ⟨b, 0, none⟩ n c _ (by rw [hik, List.length_take, hcl]; exact Nat.min_eq_left (Nat.mul_le_mul_right _ hnc)) fun j v hj => ?_
        rw [Addr.add_lit, Nat.zero_add]
        have hj2 : cs[j]? = some v := by
          have hjl := (List.getElem?_eq_some_iff.1 hj).1
          rw [List.length_take] at hjl
          rw [List.getElem?_take, if_pos (by omega)] at hj
          exact hj
        simpa using hBk.cell hj2
    obtain ⟨olds, ho, hold⟩ := hold
    have hr := hop _ _ (run_append_grow_src (P := P) w t t ty e i z hu hi hz p n c olds hold (a.eval y) zs.length news (by rw [hik]; exact hsrc) (by omega) (by omega) (growslice_fits (by omega) (by
      have : (n + zs.length) * i.bytes ≤ 1073741824 * 4096 := Nat.mul_le_mul hsum hby
      omega)))
    rw [hr]
    simp only [Oper.upon]
    obtain ⟨c', hc'⟩ : ∃ c', c' = grownCap w (n + zs.length) c e := ⟨_, rfl⟩
    have hge := grownCap_ge w (n + zs.length) c e
    have hcm : grownCap w (n + zs.length) c e ≤ maxLen := grownCap_le_maxLen w (n + zs.length) c e (by simp only [maxLen]; omega)
    rw [← hc'] at hge hcm ⊢
    obtain ⟨cs', hcs'⟩ : ∃ cs' : List Value, cs' = olds ++ news ++ (Builtin.zeroCells z.cells (c' - (n + zs.length))).toList := ⟨_, rfl⟩
    have hrow : ((olds ++ news).toArray ++ Builtin.zeroCells z.cells (c' - (n + zs.length))) = cs'.toArray := by
      rw [hcs']
      apply Array.ext'
      simp [List.append_assoc]
    rw [hrow]
    have hol : olds.length = n * Ψ.k := by
      rw [ho, List.length_take]
      refine Nat.min_eq_left ?_
      rw [hcl]
      exact Nat.mul_le_mul_right _ hnc
    have hnl : news.length = zs.length * Ψ.k := hsrc.newsLen
    have hext : Ext w (w.drew.alloc (.cells cs'.toArray e)) := (Ext.refl w).drew.alloc _
    have hBn : Blk (w.drew.alloc (.cells cs'.toArray e)) w.heap.size e cs' := heap_alloc_new w.drew _
    have hcls := (hst.cls.again hF hext hm (Nat.le_refl _) hBn).fact (F' := fun w' => F w' ∧ True) (fun h => ⟨h, trivial⟩)
    have hcls2 : Cls w0 (Bs.set m (some w.heap.size, e, cs')) (fun w => F w ∧ LS Ψ zs news w) (w.drew.alloc (.cells cs'.toArray e)) := ⟨hcls.ext, hcls.nd, hcls.lo, hcls.blk, hcls.fct.1, upC_ls _ _ hls hext⟩
    have hsq := h w.heap.size c' cs' news hst.cls.ext.size hge (by omega) (by
      have hz' : (Builtin.zeroCells z.cells (c' - (n + zs.length))).toList.length = (c' - (n + zs.length)) * Ψ.k := by rw [Array.length_toList, size_zeroCells, hzk]
      rw [hcs', List.length_append, List.length_append, hol, hnl, hz', ← Nat.add_mul, ← Nat.add_mul]
      congr 1
      omega) (by
      rw [hcs', List.take_append_of_le_length (by rw [List.length_append, hol, hnl, ← Nat.add_mul]; exact Nat.le_refl _), List.take_of_length_le (by rw [List.length_append, hol, hnl, ← Nat.add_mul]; exact Nat.le_refl _), ho]) hFF
    unfold Sq at hsq
    have hst1 : St N K (fun _ => True) a w := hst.cls' trivial
    have hst2 := hst1.turned (w' := w.drew.alloc (.cells cs'.toArray e)) (C' := Cls w0 (Bs.set m (some w.heap.size, e, cs')) (fun w => F w ∧ LS Ψ zs news w)) hcls2
    exact hK' _ _ (hsq _ _ (hst2.step (upC_cls hFF) (Ext.refl _) (Nat.le_of_ble_eq_true hN) rfl))
end
end Go.Proofs.YtanlaggnhocjhaaGreat
