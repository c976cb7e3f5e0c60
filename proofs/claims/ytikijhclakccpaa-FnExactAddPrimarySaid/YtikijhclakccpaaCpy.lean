/- copy into a block of one's own; append of so many zeros; whether two slices overlap. -/
import Derived.Test.YtikijhclakccpaaDlI
import Derived.Lib.Overlaps
namespace Go.Proofs.Ytikijhclakccpaa
set_option linter.unusedSimpArgs false
set_option linter.unusedVariables false
open Go.RowKit Go.ChangeShapes Go.WideShapes Go.ChangeAt Go.Deep
theorem run_copy_rowK {P : Program} (w : World) {t ty e : TypeId} {i : TypeInfo} (hu : P.underlying t = some (.slice e)) (hi : P.info? e = some i) {b o dn dc sn sc : Nat} {a : Addr} {cs news : List Value} (hB : Blk w b e cs) (hn : news.length = Nat.min sn dn * i.size)
    (hsrc : ∀ j v, news[j]? = some v → w.cell? (a.add j) = some v) (hfit : o + news.length ≤ cs.length) (h1 : ∀ v ∈ news, v.oneCell' = true) :
    (Builtin.copy_ #[t, t] ty #[.slice (some ⟨b, o, none⟩) dn dc, .slice (some a) sn sc]).run P w = .ok (goInt (Nat.min sn dn)) (w.setRow b (putL cs o news).toArray) := by
  have hst := run_storeCells_at P b o e news 0 cs.toArray w hB (by simpa using hfit) h1
  have e1 : putL cs o news = (cs.toArray.toList.take (o + 0) ++ news ++ cs.toArray.toList.drop (o + 0 + news.length)) := by simp [putL]
  rw [e1]
  have hf := run_firstCells_some (P := P) (w := w) i.size (Nat.min sn dn) a sn sc news hn hsrc
  simp only [Nat.add_zero] at hst ⊢
  simp only [List.append_assoc] at hst ⊢
  simp [Builtin.copy_, run_underlying hu, Builtin.lenOf, sizeOf, typeInfo, hi, hf]
  rw [hst]
  rfl
theorem run_append_zerosK {P : Program} (w : World) {t tn ty e : TypeId} {i : TypeInfo} {z : Value} {kn : IntKind} (ht : P.underlying t = some (.slice e)) (htn : P.underlying tn = some (.int kn)) (hi : P.info? e = some i) (hz : i.zero = some z) (base : Option Addr) (sLen sCap : Nat) (olds : List Value)
    (hold : (Builtin.firstCells i.size sLen (.slice base sLen sCap)).run P w.drew = .ok olds.toArray w.drew) (n : Nat) (h0 : 0 < n) (hs : 0 < i.size) (hg : sCap < sLen + n) (h63 : ((sLen + n : Nat) : Int) ≤ 9223372036854775807) (h48n : n * i.bytes ≤ 281474976710656) (hfit : Builtin.nextslicecap (sLen + n) sCap * i.bytes ≤ 281474976710656) :
    (Builtin.append_ #[t, tn] ty #[.slice base sLen sCap, .int .i64 n]).run P w =
      .ok (.slice (some ⟨w.heap.size, 0, none⟩) (sLen + n) (grownCap w (sLen + n) sCap e)) (w.drew.alloc (.cells (olds.toArray ++ Builtin.zeroCells z.cells n ++ Builtin.zeroCells z.cells (grownCap w (sLen + n) sCap e - (sLen + n))) e)) := by
  have hn : ¬ (sLen + n ≤ sCap) := by omega
  have hw : IntKind.i64.wrap (n : Int) = n := by rw [IntKind.wrap_i64]; omega
  have h63' : ¬ (9223372036854775807 < ((sLen : Int) + (n : Int))) := by omega
  have h48' : ¬ (281474976710656 < Builtin.nextslicecap (sLen + n) sCap * i.bytes) := by omega
  have h48i : ¬ (281474976710656 < (n : Int) * (i.bytes : Int)) := by
    rw [← Int.natCast_mul]
    omega
  have hneg : ¬ ((n : Int) < 0) := by omega
  have hn0 : n ≠ 0 := by omega
  have hns : ¬ (n * i.size = 0) := Nat.mul_ne_zero hn0 (by omega)
  have hs0 : ¬ i.size = 0 := by omega
  simp [Builtin.append_, run_underlying ht, run_underlying htn, sizeOf, typeInfo, zeroValue, hi, hz, asInt, asIntOf, hw, hn, hneg, hns, hn0, hs0, h63', h48', h48i, Question.forced, hold, newRow, grownCap]
section
variable {P : Program} {ops : Array Oper} {C : World → Prop} {Q : Exit → Act → World → Prop} {N : Nat} {M : List (Nat × Pr) → List Oper → Prop} {K : List (Nat × Pr)} {rest : List Oper} {d : Nat} {ty : TypeId} {pos : String} {af : Array Edge} {g : Option (Nat × Bool)} {w0 : World} {L : List Osl}
theorem Sq_copyRaw (m : Nat) {b k o dn dc b2 o2 sn sc : Nat} {t e : TypeId} {cs news : List Value} {x y : Operand} (hm : L[m]? = some (.raw e b cs)) (hav : avAll L e) (hB : appB P t e k = true) (hN : Nat.blt d N = true) (hx : kn K x = some (.inl (.slice (some ⟨b, o, none⟩) dn dc))) (hy : kn K y = some (.inl (.slice (some ⟨b2, o2, none⟩) sn sc)))
    (hn : news.length = Nat.min sn dn * k) (hsrc : ∀ w, Sep w0 L w → ∀ j u, news[j]? = some u → w.cell? ⟨b2, o2 + j, none⟩ = some u) (hfit : o + news.length ≤ cs.length) (h1 : ∀ u ∈ news, u.oneCell' = true)
    (h : Sq P ops N (Sep w0 (L.set m (.raw e b (putL cs o news)))) Q ((d, .inl (goInt (Nat.min sn dn))) :: dropR K) rest) :
    Sq P ops N (Sep w0 L) Q K (⟨some d, .call { callee := .builtin .copy, args := #[x, y], argTypes := #[t, t] }, ty, pos, af, none⟩ :: rest) := by
  unfold Sq
  intro a w hst
  obtain ⟨i, z, hu, hi, hz, hzk, hik, hby⟩ := appB_spec hB
  have hcls := hst.cls
  have hss := hsrc w hcls
  unfold Sep at hcls
  obtain ⟨Bs, hlB, hc⟩ := hcls
  have hml : m < Bs.length := by rw [hlB]; exact (List.getElem?_eq_some_iff.1 hm).1
  have hbx := List.getElem?_eq_getElem hml
  have e1 : Bs[m] = (some b, e, cs) := hc.fct m _ _ hm hbx
  rw [e1] at hbx
  have hBk : Blk w b e cs := hc.get hbx
  have hv : a.eval x = .slice (some ⟨b, o, none⟩) dn dc := kn_val hst hx
  have hw : a.eval y = .slice (some ⟨b2, o2, none⟩) sn sc := kn_val hst hy
  have hr := run_copy_rowK (P := P) w (ty := ty) (dc := dc) (sc := sc) (a := ⟨b2, o2, none⟩) hu hi hBk (by rw [hik]; exact hn) (fun j v hj => by rw [Addr.add_lit]; exact hss j v hj) hfit h1
  have hop : (execOp a.eval ⟨some d, .call { callee := .builtin .copy, args := #[x, y], argTypes := #[t, t] }, ty, pos, af, none⟩).run P w = .ok (.value (goInt (Nat.min sn dn))) (w.setRow b (putL cs o news).toArray) := by
    simp only [execOp, resolve, invoke, builtin, Sem.run_bind, Sem.run_pure, Result.andThen_ok, List.map_toArray, List.map_cons, List.map_nil, hv, hw, hr]
  refine wpList_plain rfl fun K' hK' => ?_
  unfold Oper.wp
  rw [hop]
  simp only [Oper.upon]
  unfold Sq at h
  have hst1 := hst.turned (w' := w.setRow b (putL cs o news).toArray) (C' := Sep w0 (L.set m (.raw e b (putL cs o news)))) (sep_put hlB hc hbx hav fun w' _ => rfl)
  exact hK' _ _ (h _ _ (hst1.step (d := d) (R := .inl (goInt (Nat.min sn dn))) (v := goInt (Nat.min sn dn)) upC_sep (Ext.refl _) (Nat.le_of_ble_eq_true hN) rfl))
theorem Sq_appZ (m : Nat) {b k i c : Nat} (n : Nat) {l : Int} {kn' : IntKind} {t tn e : TypeId} {cs : List Value} {x y : Operand} (hm : L[m]? = some (.raw e b cs)) (hB : appB P t e k = true) (hk : Nat.blt 0 k = true) (htn : P.underlying tn = some (.int kn')) (hN : Nat.blt d N = true) (hx : kn K x = some (.inl (.slice (some ⟨b, 0, none⟩) i c))) (hy : kn K y = some (.inl (.int .i64 l))) (hl0 : l = (n : Int))
    (hcl : cs.length = c * k) (hb : i ≤ c ∧ c < i + n ∧ 0 < n ∧ i + n ≤ 1073741824)
    (h : ∀ g c' cs', i + n ≤ c' → c' ≤ maxLen → cs'.length = c' * k → cs'.take (i * k) = cs.take (i * k) → Sq P ops N (Sep w0 (.raw e g cs' :: L)) Q ((d, .inl (.slice (some ⟨g, 0, none⟩) (i + n) c')) :: K) rest) :
    Sq P ops N (Sep w0 L) Q K (⟨some d, .call { callee := .builtin .append, args := #[x, y], argTypes := #[t, tn] }, ty, pos, af, none⟩ :: rest) := by
  subst hl0
  unfold Sq
  intro a w hst
  obtain ⟨ti, z, hu, hi, hz, hzk, hik, hby⟩ := appB_spec hB
  have hk' : 0 < k := Nat.le_of_ble_eq_true hk
  obtain ⟨hic, hcn, hn0, hsum⟩ := hb
  have hBk : Blk w b e cs := hst.cls.raw hm
  have hv : a.eval x = .slice (some ⟨b, 0, none⟩) i c := kn_val hst hx
  have hw : a.eval y = .int .i64 (n : Int) := kn_val hst hy
  have hol : (cs.take (i * k)).length = i * k := by rw [List.length_take, hcl]; exact Nat.min_eq_left (Nat.mul_le_mul_right _ hic)
  have hold : (Builtin.firstCells ti.size i (.slice (some ⟨b, 0, none⟩) i c)).run P w.drew = .ok (cs.take (i * k)).toArray w.drew :=
    run_firstCells_some w.drew ti.size i ⟨b, 0, none⟩ i c _ (by rw [hik]; exact hol) fun j v hj => by
      rw [Addr.add_lit, Nat.zero_add]
      have hj2 : cs[j]? = some v := by
        have hjl := (List.getElem?_eq_some_iff.1 hj).1
        rw [hol] at hjl
        rw [List.getElem?_take, if_pos hjl] at hj
        exact hj
      simpa using hBk.cell hj2
  have hr := run_append_zerosK (P := P) w (ty := ty) (kn := kn') hu htn hi hz (some ⟨b, 0, none⟩) i c _ hold n hn0 (by rw [hik]; exact hk') hcn (by omega) (by
    have : n * ti.bytes ≤ 1073741824 * 4096 := Nat.mul_le_mul (by omega) hby
    omega) (growslice_fits (by omega) (by
    have : (i + n) * ti.bytes ≤ 1073741824 * 4096 := Nat.mul_le_mul hsum hby
    omega))
  have hop : ∀ r w', (Builtin.append_ #[t, tn] ty #[.slice (some ⟨b, 0, none⟩) i c, .int .i64 (n : Int)]).run P w = .ok r w' → (execOp a.eval ⟨some d, .call { callee := .builtin .append, args := #[x, y], argTypes := #[t, tn] }, ty, pos, af, none⟩).run P w = .ok (.value r) w' := fun r w' hr => by
    simp only [execOp, resolve, invoke, builtin, Sem.run_bind, Sem.run_pure, Result.andThen_ok, List.map_toArray, List.map_cons, List.map_nil, hv, hw, hr]
  refine wpList_plain rfl fun K' hK' => ?_
  unfold Oper.wp
  rw [hop _ _ hr]
  simp only [Oper.upon]
  obtain ⟨c', hc'⟩ : ∃ c', c' = grownCap w (i + n) c e := ⟨_, rfl⟩
  have hge := grownCap_ge w (i + n) c e
  have hcm : grownCap w (i + n) c e ≤ maxLen := grownCap_le_maxLen w (i + n) c e (by simp only [maxLen]; omega)
  rw [← hc'] at hge hcm ⊢
  obtain ⟨cs', hcs'⟩ : ∃ cs' : List Value, cs' = cs.take (i * k) ++ (Builtin.zeroCells z.cells n).toList ++ (Builtin.zeroCells z.cells (c' - (i + n))).toList := ⟨_, rfl⟩
  have hrow : ((cs.take (i * k)).toArray ++ Builtin.zeroCells z.cells n ++ Builtin.zeroCells z.cells (c' - (i + n))) = cs'.toArray := by
    rw [hcs']
    apply Array.ext'
    simp [List.append_assoc]
  rw [hrow]
  have hext : Ext w (w.drew.alloc (.cells cs'.toArray e)) := (Ext.refl w).drew.alloc _
  have hBn : Blk (w.drew.alloc (.cells cs'.toArray e)) w.heap.size e cs' := heap_alloc_new w.drew _
  obtain ⟨Bs, hl, hc⟩ : ∃ Bs : BL, Bs.length = L.length ∧ Cls w0 Bs (FctL L Bs) w := by
    have := hst.cls
    unfold Sep at this
    exact this
  have hz1 : ∀ q : Nat, (Builtin.zeroCells z.cells q).toList.length = q * k := fun q => by rw [Array.length_toList, size_zeroCells, hzk]
  have hsq := h w.heap.size c' cs' hge hcm (by rw [hcs', List.length_append, List.length_append, hol, hz1, hz1, ← Nat.add_mul, ← Nat.add_mul]; congr 1; omega) (by
    rw [hcs', List.append_assoc, List.take_append_of_le_length (by rw [hol]; exact Nat.le_refl _), List.take_of_length_le (by rw [hol]; exact Nat.le_refl _)])
  unfold Sq at hsq
  have hst1 : St N K (fun _ => True) a w := hst.cls' trivial
  have hst2 := hst1.step (d := d) (R := .inl (.slice (some ⟨w.heap.size, 0, none⟩) (i + n) c')) (v := .slice (some ⟨w.heap.size, 0, none⟩) (i + n) c') (fun _ _ _ _ => trivial) hext (Nat.le_of_ble_eq_true hN) rfl
  exact hK' _ _ (hsq _ _ (hst2.cls' (sep_cons hl (hc.fresh upC_fct hext (Nat.le_refl _) hBn) rfl)))
theorem W_overlaps (hM : Stepper P ops C N M) {f : FuncId} {fn : Func} {tS tR : TypeId} {k b1 o1 b2 o2 la ca lb cb : Nat} {xs : Array Operand} {ats : Array TypeId} (hf : P.funcs[f]? = some fn) (hname : (fn.name == "runtime.NumGoroutine") = false) (hb : fn.body.isNone = true) (hfn : Extern.findNext fn = none) (he : Extern.find fn = some (Extern.SlicesOverlaps.overlaps #[tS, tS] #[tR]))
    (hB : elemB P tS k = true) (hne : b1 ≠ b2) (h1 : ∀ w, C w → ∃ t1 cs1, Blk w b1 t1 cs1) (h2 : ∀ w, C w → ∃ t2 v2 cs2, Blk w b2 t2 (v2 :: cs2)) (hg : wantedK ops K g = some true) (hN : Nat.blt d N = true)
    (hargs : knAll K xs.toList = some [.inl (.slice (some ⟨b1, o1, none⟩) la ca), .inl (.slice (some ⟨b2, o2, none⟩) lb cb)])
    (h : M ((d, .inl (.bool false)) :: K) rest) : M K (⟨some d, .call { callee := .value (.func f), args := xs, argTypes := ats }, ty, pos, af, g⟩ :: rest) :=
  W_gen hM _ hN hg (fun a w hC hk => by
    have hall := knAll_ok (ρ := a.eval) (w := w) xs.toList _ hargs fun x hx p hp => hk x (by simp only [Op.operands, Call.operands]; simp; exact .inr (by simpa using hx)) p hp
    have key : ∀ (us vs : List Value), okAll (vs.map .inl) us w → us = vs := by
      intro us
      induction us with
      | nil => intro vs h; cases vs with
        | nil => rfl
        | cons v vs => simp [okAll] at h
      | cons u us ih => intro vs h; cases vs with
        | nil => simp [okAll] at h
        | cons v vs =>
          obtain ⟨h1, h2⟩ := h
          rw [show u = v from h1, ih vs h2]
    have e1 := key _ [.slice (some ⟨b1, o1, none⟩) la ca, .slice (some ⟨b2, o2, none⟩) lb cb] hall
    have e2 : xs.map a.eval = #[.slice (some ⟨b1, o1, none⟩) la ca, .slice (some ⟨b2, o2, none⟩) lb cb] := by
      apply Array.ext'
      simpa using e1
    obtain ⟨t1, cs1, hB1⟩ := h1 w hC
    obtain ⟨t2, v2, cs2, hB2⟩ := h2 w hC
    obtain ⟨te, inf, hu, hinf, hsz⟩ := elemB_spec hB
    have hfv : a.eval (.func f) = .func (.func f) #[] #[] := rfl
    have hov := Lib.run_overlaps_apart (P := P) w tS tR te hu k (fun w => by simp [sizeOf_run hinf, hsz]) ⟨b1, o1, none⟩ ⟨b2, o2, none⟩ la ca lb cb hne t1 t2 cs1.length (v2 :: cs2).length (by simp [World.shape?, show w.heap[b1]? = _ from hB1]) (by simp [World.shape?, show w.heap[b2]? = _ from hB2]) (by simp) (by simp [World.frozen?, show w.heap[b1]? = _ from hB1]) (by simp [World.frozen?, show w.heap[b1]? = _ from hB1])
    have hrun := run_callFunc_extern (P := P) hf hname hb hfn he (xs.map a.eval) w
    rw [e2, hov] at hrun
    simp only [Result.andThen_ok] at hrun
    have hop : (execOp a.eval ⟨some d, .call { callee := .value (.func f), args := xs, argTypes := ats }, ty, pos, af, g⟩).run P w = .ok (.value (.bool false)) w := by
      simp [execOp, resolve, hfv, Deferred.ofValue, invoke, e2, hrun]
    unfold gives
    rw [hop]
    exact ⟨Ext.refl w, rfl⟩) h
end
end Go.Proofs.Ytikijhclakccpaa
